import Derived.Test.YtiajmkppilmjdaaD4
set_option linter.unusedSimpArgs false
set_option linter.unusedVariables false
namespace Go.Proofs.Ytiajmkppilmjdaa
open Go.Fw
@[go_sem] def lv6 : List (List Nat) := [[0], [0, 10], [2], [3, 4, 5], [3, 4, 5, 6], [3, 4, 5, 6, 34], [2], [3, 4, 5, 6, 43], [2], [4, 5, 6, 7], [4, 5, 6, 57], [2], [2]]


theorem ok2 {xs : List Pack} {w h : Int} (hh : (packsOk xs && roomOk w h) = true) : packsOk xs = true ∧ roomOk w h = true := by simpa using hh
theorem roomIn {xs : List Pack} {w h : Int} (hh : (packsOk xs && roomOk w h) = true) : RectIn ⟨0, 0, w, h⟩ := by
  have h5 := roomOk_iff (ok2 hh).2
  constructor <;> dsimp only <;> omega
theorem zeroIn : RectIn ⟨0, 0, 0, 0⟩ := by constructor <;> dsimp only <;> omega

theorem packLeft_in (xs : List Pack) (w h : Int) : RectIn (packLeft xs w h) := by
  unfold packLeft
  split
  · rename_i hh
    obtain ⟨h3, h4⟩ := packsOk_iff hh.1
    exact (parcels_inv h3 h4 (roomIn (xs := xs) (by simp [hh.1, hh.2]))).2.1
  · exact zeroIn
theorem packLeft_w (xs : List Pack) (w h : Int) : 0 ≤ (packLeft xs w h).w ∧ (packLeft xs w h).w ≤ 400 := by
  obtain ⟨h1, h2, h3, h4, h5, h6⟩ := packLeft_in xs w h
  omega
theorem packLeft_h (xs : List Pack) (w h : Int) : 0 ≤ (packLeft xs w h).h ∧ (packLeft xs w h).h ≤ 400 := by
  obtain ⟨h1, h2, h3, h4, h5, h6⟩ := packLeft_in xs w h
  omega
theorem packLeft_eq {xs : List Pack} {w h : Int} (hh : (packsOk xs && roomOk w h) = true) : packLeft xs w h = (parcels xs ⟨0, 0, w, h⟩).2 := by
  unfold packLeft; rw [if_pos (ok2 hh)]

theorem c_FnPackLeft (cs : List Byte) (hl : cs.length < 2^63) : ACon Try.prog 6 [.d (.lst (cs.map encByte))] [] (Is (.d (.bool true))) := by
  refine ACon.introW tok (nt := 66) Try.func6 rfl rfl rfl (by kernel_rfl) rfl ?_
  repeat' (first | ((with_reducible apply xsim); (first | ((with_reducible apply xlenM); exact rfl; exact rfl) | ((with_reducible apply xo); exact rfl) | ((with_reducible apply xst); exact rfl) | with_reducible apply xend | ((with_reducible apply xguardS); exact rfl; exact rfl) | ((with_reducible apply xalloc); exact rfl; simp only [backV, backVs, backVs_mapd, backId, backO, List.map_cons, List.map_nil, List.getElem?_nil, List.length_cons, List.length_nil, Nat.reduceAdd, Nat.reduceSub, List.cons_append, List.nil_append, List.append_nil]) | ((with_reducible apply xidxL); exact rfl; exact rfl; exact rfl; (first | exact (atI (by omega))); omega; first | exact rfl | simp only [hsz]) | ((with_reducible apply xidxM); exact rfl; exact rfl; exact rfl; omega; omega; exact rfl) | ((with_reducible apply xldA); exact rfl; exact rfl; exact rfl; (first | exact (atI (by omega))); exact rfl) | ((with_reducible apply xstA); exact rfl; exact rfl; exact rfl; exact rfl; (first | exact (atI (by omega))); exact rfl; exact rfl; exact rfl; exact rfl; (try simp only [List.set_cons_zero, List.set_cons_succ])) | ((with_reducible apply xcallIs); exact rfl; exact rfl; (first | exact c_PackLeftI _ _ _ (by omega) | exact c_PackLeftS _ _ _ (by omega) | exact c_equalRect _ | exact c_goodPacks _ _ _ (by omega) | exact c_room _ _ | exact c_within2 _ _ (roomIn (by assumption)).sm (packLeft_in _ _ _).sm | exact c_area _ (packLeft_w _ _ _) (packLeft_h _ _ _)); exact rfl) | ((with_reducible apply xcallSm); exact rfl; exact rfl; exact c_DrawPackLeft cs hl; rintro _ ⟨xs, w, h, rfl, hx⟩) | simp -implicitDefEqProofs only [go_sem, Int.reduceEq, Int.reduceLT, Int.reduceLE, Nat.reduceAdd, Nat.reduceSub, Nat.reduceMul, Nat.reduceEqDiff, Nat.reduceLeDiff, Nat.reducePow, ↓reduceIte, reduceCtorEq])) | ((with_reducible apply xaw); (first | ((with_reducible apply xstepS); refine AW.step tok rfl ?_) | ((with_reducible apply xstep); refine AW.region tok rfl ?_) | with_reducible (first | refine AW.seq ?_ | refine AW.block ?_ | refine AW.skip ?_ | refine AW.ret ?_ | refine AW.exit ?_) | ((with_reducible apply xcond); exact rfl) | ((with_reducible apply xdrawS (id := 5)); refine AW.drawS (id := 5) (.q 0 (.q 1 (.q 2 (.q 3 (.q 4 (.q 5 (.q 6 (.q 7 (.q 8 (.q 9 (.q 10 (.q 11 (.q 12 (.q 13 (.fin))))))))))))))) tok (by kernel_rfl) rfl (by kernel_rfl) ?_) | ((with_reducible apply xdraw (id := 5)); refine AW.draw (id := 5) (.q 0 (.q 1 (.q 2 (.q 3 (.q 4 (.q 5 (.q 6 (.q 7 (.q 8 (.q 9 (.q 10 (.q 11 (.q 12 (.q 13 (.fin))))))))))))))) tok (by kernel_rfl) rfl (by kernel_rfl) ?_) | ((with_reducible apply xdrawS (id := 6)); refine AW.drawS (id := 6) (.q 0 (.q 1 (.q 2 (.q 3 (.q 4 (.q 5 (.q 6 (.fin)))))))) tok (by kernel_rfl) rfl (by kernel_rfl) ?_) | ((with_reducible apply xdraw (id := 6)); refine AW.draw (id := 6) (.q 0 (.q 1 (.q 2 (.q 3 (.q 4 (.q 5 (.q 6 (.fin)))))))) tok (by kernel_rfl) rfl (by kernel_rfl) ?_) | ((with_reducible apply xdrawS (id := 8)); refine AW.drawS (id := 8) (.q 0 (.q 1 (.q 2 (.q 3 (.q 4 (.q 5 (.fin))))))) tok (by kernel_rfl) rfl (by kernel_rfl) ?_) | ((with_reducible apply xdraw (id := 8)); refine AW.draw (id := 8) (.q 0 (.q 1 (.q 2 (.q 3 (.q 4 (.q 5 (.fin))))))) tok (by kernel_rfl) rfl (by kernel_rfl) ?_) | ((with_reducible apply xdrawS (id := 11)); refine AW.drawS (id := 11) (.q 0 (.q 1 (.q 2 (.q 3 (.q 4 (.q 5 (.fin))))))) tok (by kernel_rfl) rfl (by kernel_rfl) ?_) | ((with_reducible apply xdraw (id := 11)); refine AW.draw (id := 11) (.q 0 (.q 1 (.q 2 (.q 3 (.q 4 (.q 5 (.fin))))))) tok (by kernel_rfl) rfl (by kernel_rfl) ?_))) | ((with_reducible apply xarun); (first | ((with_reducible apply xrun_q); exact rfl; exact rfl; exact rfl) | ((with_reducible apply xrun_c); exact rfl; exact rfl; exact rfl; exact rfl; exact rfl; exact rfl; (first | exact c_PackLeftI _ _ _ (by omega) | exact c_PackLeftS _ _ _ (by omega) | exact c_equalRect _ | exact c_goodPacks _ _ _ (by omega) | exact c_room _ _ | exact c_within2 _ _ (roomIn (by assumption)).sm (packLeft_in _ _ _).sm | exact c_area _ (packLeft_w _ _ _) (packLeft_h _ _ _)); exact rfl) | ((with_reducible apply xrun_g); exact rfl; exact rfl; exact rfl; exact rfl; exact rfl; exact rfl) | ((with_reducible apply xrun_e); exact rfl) | with_reducible apply xrun_f)) | ((with_reducible apply xcallQ); exact rfl; exact rfl; (first | exact c_PackLeftI _ _ _ (by omega) | exact c_PackLeftS _ _ _ (by omega) | exact c_equalRect _ | exact c_goodPacks _ _ _ (by omega) | exact c_room _ _ | exact c_within2 _ _ (roomIn (by assumption)).sm (packLeft_in _ _ _).sm | exact c_area _ (packLeft_w _ _ _) (packLeft_h _ _ _)); exact rfl) | with_reducible (first | refine xthen ?_ | refine xthen_r ?_ | refine xthen_e ?_ | refine xblock ?_ | refine xblock_r ?_ | refine xblock_e ?_ | refine xblock_n rfl ?_ | refine xround_r ?_ | refine xround_e ?_) | (with_reducible intro hc; (try simp only [decide_eq_true_eq, decide_eq_false_iff_not, Bool.not_true, Bool.not_false, Bool.not_eq_true', Bool.not_eq_false', ne_eq, not_true, reduceCtorEq] at hc); (try (exfalso; omega))) | with_reducible (first | exact trivial | refine And.intro ?_ ?_ | exact rfl | exact Nat.le_refl _) | exact Eq.refl true | exact (rfl : (_ : List Nat) = _) | exact Nat.le_of_ble_eq_true rfl | (refine inR_i64.mpr ?_; first | omega | (simp only [List.length_map]; omega)) | omega)
  · (refine xfinIs (by first | exact .inl rfl | exact .inr rfl) rfl (by repeat' (first | exact trivial | exact rfl | refine And.intro ?_ ?_)) rfl ?_ rfl; first | with_reducible exact rfl | (simp -implicitDefEqProofs only [go_sem, Int.reduceEq, Int.reduceLT, Int.reduceLE, Nat.reduceAdd, Nat.reduceSub, Nat.reduceMul, Nat.reduceEqDiff, Nat.reduceLeDiff, Nat.reducePow, ↓reduceIte, reduceCtorEq] <;> (first | rfl | omega | exact decide_eq_decide.2 (by omega) | exact decide_eq_false (by omega) | exact decide_eq_true (by omega) | (symm; first | exact decide_eq_false (by omega) | exact decide_eq_true (by omega)))))
  · (refine xfinIs (by first | exact .inl rfl | exact .inr rfl) rfl (by repeat' (first | exact trivial | exact rfl | refine And.intro ?_ ?_)) rfl ?_ rfl; first | with_reducible exact rfl | (simp -implicitDefEqProofs only [go_sem, Int.reduceEq, Int.reduceLT, Int.reduceLE, Nat.reduceAdd, Nat.reduceSub, Nat.reduceMul, Nat.reduceEqDiff, Nat.reduceLeDiff, Nat.reducePow, ↓reduceIte, reduceCtorEq] <;> (first | rfl | omega | exact decide_eq_decide.2 (by omega) | exact decide_eq_false (by omega) | exact decide_eq_true (by omega) | (symm; first | exact decide_eq_false (by omega) | exact decide_eq_true (by omega)))))
  · rename_i hok
    obtain rfl : xs = [] := List.eq_nil_of_length_eq_zero (by omega)
    have e : packLeft [] w h = ⟨0, 0, w, h⟩ := by rw [packLeft_eq hok]; rfl
    (refine xfinIs (by first | exact .inl rfl | exact .inr rfl) rfl (by repeat' (first | exact trivial | exact rfl | refine And.intro ?_ ?_)) rfl ?_ rfl; first | with_reducible exact rfl | (simp -implicitDefEqProofs only [go_sem, Int.reduceEq, Int.reduceLT, Int.reduceLE, Nat.reduceAdd, Nat.reduceSub, Nat.reduceMul, Nat.reduceEqDiff, Nat.reduceLeDiff, Nat.reducePow, ↓reduceIte, reduceCtorEq, e, decide_true] <;> (first | rfl | omega | exact decide_eq_decide.2 (by omega) | exact decide_eq_false (by omega) | exact decide_eq_true (by omega) | (symm; first | exact decide_eq_false (by omega) | exact decide_eq_true (by omega)))))
  · rename_i hok hne
    obtain ⟨h3, h4⟩ := packsOk_iff (ok2 hok).1
    have hi := (parTo_ins h3 h4 (roomIn hok) xs.length (Nat.le_refl _)).1
    have e := packLeft_eq hok
    have hi : Ins ⟨0, 0, w, h⟩ (packLeft xs w h) := by rw [e]; exact hi
    unfold Ins at hi
    dsimp only at hi
    (refine xfinIs (by first | exact .inl rfl | exact .inr rfl) rfl (by repeat' (first | exact trivial | exact rfl | refine And.intro ?_ ?_)) rfl ?_ rfl; first | with_reducible exact rfl | (simp -implicitDefEqProofs only [go_sem, Int.reduceEq, Int.reduceLT, Int.reduceLE, Nat.reduceAdd, Nat.reduceSub, Nat.reduceMul, Nat.reduceEqDiff, Nat.reduceLeDiff, Nat.reducePow, ↓reduceIte, reduceCtorEq] <;> (first | rfl | omega | exact decide_eq_decide.2 (by omega) | exact decide_eq_false (by omega) | exact decide_eq_true (by omega) | (symm; first | exact decide_eq_false (by omega) | exact decide_eq_true (by omega)))))
  · rename_i hok hne
    obtain ⟨h3, h4⟩ := packsOk_iff (ok2 hok).1
    have e : (packLeft xs w h).w * (packLeft xs w h).h = 0 := by
      rw [packLeft_eq hok]
      refine rest_zero h3 h4 (roomIn hok) (k := xs.length - 1) (by omega) ?_
      rw [← hc]
      congr 2
      omega
    (refine xfinIs (by first | exact .inl rfl | exact .inr rfl) rfl (by repeat' (first | exact trivial | exact rfl | refine And.intro ?_ ?_)) rfl ?_ rfl; first | with_reducible exact rfl | (simp -implicitDefEqProofs only [go_sem, Int.reduceEq, Int.reduceLT, Int.reduceLE, Nat.reduceAdd, Nat.reduceSub, Nat.reduceMul, Nat.reduceEqDiff, Nat.reduceLeDiff, Nat.reducePow, ↓reduceIte, reduceCtorEq, e, decide_true] <;> (first | rfl | omega | exact decide_eq_decide.2 (by omega) | exact decide_eq_false (by omega) | exact decide_eq_true (by omega) | (symm; first | exact decide_eq_false (by omega) | exact decide_eq_true (by omega)))))
end Go.Proofs.Ytiajmkppilmjdaa
