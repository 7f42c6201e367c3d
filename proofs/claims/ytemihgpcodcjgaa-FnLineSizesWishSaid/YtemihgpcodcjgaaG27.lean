import Derived.Test.YtemihgpcodcjgaaG26
set_option linter.unusedSimpArgs false
set_option linter.unusedVariables false
namespace Go.Proofs.Ytemihgpcodcjgaa
open Go.Fw

theorem c_ltotal (xs : List Int) (h : NumsOk xs) : ACon Try.prog 26 [.d (.lst (xs.map encN))] [] (Is (.d (.int .i64 (sumI xs)))) := by
  have hl := h.1
  refine ACon.introW tok (nt := 18) Try.func26 rfl rfl rfl (by kernel_rfl) rfl ?_
  repeat' (first | ((with_reducible apply xsim); (first | ((with_reducible apply xo); exact rfl) | with_reducible apply xend)) | ((with_reducible apply xaw); (first | ((with_reducible apply xstepS); refine AW.step tok rfl ?_) | with_reducible (first | refine AW.seq ?_ | refine AW.block ?_ | refine AW.skip ?_ | refine AW.ret ?_ | refine AW.exit ?_))) | with_reducible (first | exact trivial | refine And.intro ?_ ?_ | exact rfl | exact Nat.le_refl _))
  refine AW.loop (S := fun k : Nat => ⟨[(0, .d (.lst (xs.map encN))), (3, .d (.int .i64 (sumI (xs.take k)))), (4, .d (.int .i64 k))], [], 18, 0⟩)
    (Pre := fun k => k ≤ xs.length) (μ := fun k => xs.length - k) 0 (Nat.zero_le _) ?_ ?_
  · (refine xwk (π := []) (by decide) rfl ?_ ?_; (first | exact trivial); repeat' (first | exact renE_n | ((with_reducible apply renE_c); exact rfl; focus (first | (simp -implicitDefEqProofs only [go_sem, Int.reduceEq, Int.reduceLT, Int.reduceLE, Nat.reduceAdd, Nat.reduceSub, Nat.reduceMul, Nat.reduceEqDiff, Nat.reduceLeDiff, Nat.reducePow, ↓reduceIte, reduceCtorEq, List.take_zero, sumI]; done)))))
  · intro k hk
    have hs := h.sum k hk
    by_cases hlt : k < xs.length
    · have hrow := at_map (f := encN) hlt
      have hx := h.at hlt
      repeat' (first | ((with_reducible apply xsim); (first | ((with_reducible apply xlenM); exact rfl; exact rfl) | ((with_reducible apply xo); exact rfl) | with_reducible apply xend | ((with_reducible apply xidxL); exact rfl; exact rfl; exact rfl; (first | exact hrow); omega; first | exact rfl | simp only [hsz]))) | ((with_reducible apply xaw); (first | ((with_reducible apply xstepS); refine AW.step tok rfl ?_) | ((with_reducible apply xstep); refine AW.region tok rfl ?_) | with_reducible (first | refine AW.seq ?_ | refine AW.block ?_ | refine AW.skip ?_ | refine AW.ret ?_ | refine AW.exit ?_) | ((with_reducible apply xcond); exact rfl))) | with_reducible (first | refine xthen ?_ | refine xthen_r ?_ | refine xthen_e ?_ | refine xblock ?_ | refine xblock_r ?_ | refine xblock_e ?_ | refine xblock_n rfl ?_ | refine xround_r ?_ | refine xround_e ?_) | (with_reducible intro hc; (try simp only [decide_eq_true_eq, decide_eq_false_iff_not, Bool.not_true, Bool.not_false, Bool.not_eq_true', Bool.not_eq_false', ne_eq, not_true, reduceCtorEq, List.length_map] at hc); (try (exfalso; omega))) | with_reducible (first | exact trivial | refine And.intro ?_ ?_ | exact rfl | exact Nat.le_refl _) | (refine inR_i64.mpr ?_; first | omega | (simp only [List.length_map, List.length_map]; omega)))
      refine round_end (k+1) hlt (by omega) (by (refine xwk (π := []) (by decide) rfl ?_ ?_; (first | exact trivial); repeat' (first | exact renE_n | ((with_reducible apply renE_c); exact rfl; focus (first | (simp -implicitDefEqProofs only [go_sem, Int.reduceEq, Int.reduceLT, Int.reduceLE, Nat.reduceAdd, Nat.reduceSub, Nat.reduceMul, Nat.reduceEqDiff, Nat.reduceLeDiff, Nat.reducePow, ↓reduceIte, reduceCtorEq, sumI_take hlt]; done))))))
    · have hk' : k = xs.length := by omega
      subst hk'
      repeat' (first | ((with_reducible apply xsim); (first | ((with_reducible apply xlenM); exact rfl; exact rfl) | ((with_reducible apply xo); exact rfl) | with_reducible apply xend)) | ((with_reducible apply xaw); (first | ((with_reducible apply xstepS); refine AW.step tok rfl ?_) | with_reducible (first | refine AW.seq ?_ | refine AW.block ?_ | refine AW.skip ?_ | refine AW.ret ?_ | refine AW.exit ?_) | ((with_reducible apply xcond); exact rfl))) | with_reducible (first | refine xthen ?_ | refine xthen_r ?_ | refine xthen_e ?_ | refine xblock ?_ | refine xblock_r ?_ | refine xblock_e ?_ | refine xblock_n rfl ?_ | refine xround_r ?_ | refine xround_e ?_) | (with_reducible intro hc; (try simp only [decide_eq_true_eq, decide_eq_false_iff_not, Bool.not_true, Bool.not_false, Bool.not_eq_true', Bool.not_eq_false', ne_eq, not_true, reduceCtorEq, List.length_map] at hc); (try (exfalso; omega))) | with_reducible (first | exact trivial | refine And.intro ?_ ?_ | exact rfl | exact Nat.le_refl _))
      (refine xfinIs (by first | exact .inl rfl | exact .inr rfl) rfl (by repeat' (first | exact trivial | exact rfl | refine And.intro ?_ ?_)) rfl ?_ rfl; first | (simp -implicitDefEqProofs only [go_sem, Int.reduceEq, Int.reduceLT, Int.reduceLE, Nat.reduceAdd, Nat.reduceSub, Nat.reduceMul, Nat.reduceEqDiff, Nat.reduceLeDiff, Nat.reducePow, ↓reduceIte, reduceCtorEq, List.take_length] <;> (first | rfl | omega | exact decide_eq_decide.2 (by omega) | exact decide_eq_false (by omega) | exact decide_eq_true (by omega) | (symm; first | exact decide_eq_false (by omega) | exact decide_eq_true (by omega)) | (rw [Bool.eq_iff_iff]; simp only [Bool.not_eq_true', Bool.not_eq_false', Bool.and_eq_true, Bool.or_eq_true, decide_eq_true_eq, decide_eq_false_iff_not, reduceCtorEq, true_iff, iff_true, false_iff, iff_false]; omega))))

theorem lineReqs_ok {ls : List Line} {ss : List Span} (h : ¬ (lineReqs ls ss).length = 0) : LOk ls ∧ SOk ss ls.length ∧ lineReqs ls ss = requests ls ss := by
  unfold lineReqs at h ⊢
  split at h
  · rename_i hh
    rw [if_pos hh]
    exact ⟨(inputOk_iff hh).1, (inputOk_iff hh).2, rfl⟩
  · exact absurd rfl h
theorem lineSz_ok {ls : List Line} {ss : List Span} {room : Int} (h : ¬ (lineSz ls ss room).length = 0) : LOk ls ∧ SOk ss ls.length ∧ (0 ≤ room ∧ room ≤ 400) ∧ lineSz ls ss room = sizes ls (requests ls ss) room ∧ lineReqs ls ss = requests ls ss := by
  unfold lineSz at h ⊢
  split at h
  · rename_i hh
    rw [if_pos hh]
    exact ⟨(inputOk_iff hh.1).1, (inputOk_iff hh.1).2, hh.2, rfl, by rw [lineReqs, if_pos hh.1]⟩
  · exact absurd rfl h
theorem lineReqs_nums {ls : List Line} {ss : List Span} : NumsOk (lineReqs ls ss) := by
  unfold lineReqs
  split
  · rename_i h
    obtain ⟨h1, h2⟩ := inputOk_iff h
    exact (requests_rok h1 h2).nums h1.hi
  · exact ⟨by simp, by simp⟩
theorem lineSz_nums {ls : List Line} {ss : List Span} {room : Int} : NumsOk (lineSz ls ss room) := by
  refine ⟨by have := lineSz_small (ls := ls) (ss := ss) (room := room); omega, ?_⟩
  unfold lineSz
  split
  · rename_i h
    obtain ⟨h1, h2⟩ := inputOk_iff h.1
    intro x hx
    have := (sizes_ok h1 (requests_ge h1 h2) h.2).bd x hx
    omega
  · simp
theorem lineReqs_sum {ls : List Line} {ss : List Span} : 0 ≤ sumI (lineReqs ls ss) := by
  have := (lineReqs_nums (ls := ls) (ss := ss)).sum _ (Nat.le_refl _)
  rw [List.take_length] at this
  exact this.1
theorem lineSz_wish {ls : List Line} {ss : List Span} {room : Int} (h : ¬ (lineSz ls ss room).length = 0) (hn : sumI (lineReqs ls ss) ≤ 400) : lineSz ls ss (sumI (lineReqs ls ss)) = lineReqs ls ss := by
  obtain ⟨h1, h2, h3, h4, h5⟩ := lineSz_ok h
  have h0 := lineReqs_sum (ls := ls) (ss := ss)
  have hok : inputOk ls ss = true := by
    unfold lineSz at h
    split at h
    · rename_i hh; exact hh.1
    · exact absurd rfl h
  rw [lineSz, if_pos ⟨hok, h0, hn⟩, h5, sizes, if_neg (by omega)]
  split
  · rfl
  · rw [show sumI (requests ls ss) - sumI (requests ls ss) = 0 by omega]; exact spread0 h1.all
theorem lineReqs_of {ls : List Line} {ss : List Span} (h1 : linesOk ls = true) (h2 : spansOk ss ls.length = true) : lineReqs ls ss = requests ls ss := by
  rw [lineReqs, if_pos (by simp [inputOk, h1, h2])]

theorem c_FnLineRequests (cs : List Byte) (hl : cs.length < 2^63) : ACon Try.prog 4 [.d (.lst (cs.map encByte))] [] (Is (.d (.bool true))) := by
  refine ACon.introW tok (nt := 87) Try.func4 rfl rfl rfl (by kernel_rfl) rfl ?_
  repeat' (first | ((with_reducible apply xsim); (first | ((with_reducible apply xlenM); exact rfl; exact rfl) | ((with_reducible apply xo); exact rfl) | with_reducible apply xend | ((with_reducible apply xguardS); exact rfl; exact rfl) | ((with_reducible apply xcallIs); exact rfl; exact rfl; (first | exact ORows.data (c_lineReqsI _ _ (by omega) (by omega)) | exact ORows.data (c_lineReqsS _ _ (by omega) (by omega)) | exact c_laws.equalInts _ (Nat.lt_of_le_of_lt lineReqs_small (by decide))); exact rfl) | ((with_reducible apply xcallSm); exact rfl; exact rfl; exact c_DrawLineRequests cs hl; rintro _ ⟨ls, ss, rfl, hx, hy⟩))) | ((with_reducible apply xaw); (first | ((with_reducible apply xstepS); refine AW.step tok rfl ?_) | with_reducible (first | refine AW.seq ?_ | refine AW.block ?_ | refine AW.skip ?_ | refine AW.ret ?_ | refine AW.exit ?_) | ((with_reducible apply xcond); exact rfl))) | with_reducible (first | refine xthen ?_ | refine xthen_r ?_ | refine xthen_e ?_ | refine xblock ?_ | refine xblock_r ?_ | refine xblock_e ?_ | refine xblock_n rfl ?_ | refine xround_r ?_ | refine xround_e ?_) | (with_reducible intro hc; (try simp only [decide_eq_true_eq, decide_eq_false_iff_not, Bool.not_true, Bool.not_false, Bool.not_eq_true', Bool.not_eq_false', ne_eq, not_true, reduceCtorEq, List.length_map] at hc); (try (exfalso; omega))) | with_reducible (first | exact trivial | refine And.intro ?_ ?_ | exact rfl | exact Nat.le_refl _))
  · (refine xfinIs (by first | exact .inl rfl | exact .inr rfl) rfl (by repeat' (first | exact trivial | exact rfl | refine And.intro ?_ ?_)) rfl ?_ rfl; first | with_reducible exact rfl)
  · (refine xfinIs (by first | exact .inl rfl | exact .inr rfl) rfl (by repeat' (first | exact trivial | exact rfl | refine And.intro ?_ ?_)) rfl ?_ rfl; first | with_reducible exact rfl)
  obtain ⟨h, hs, he⟩ := lineReqs_ok (ls := ls) (ss := ss) (by omega)
  have hsm := lineReqs_small (ls := ls) (ss := ss)
  have hen := fun s hm => requests_enough h hs (s := s) hm
  have hge := (requests_ge h hs).ge
  have hol := (requests_rok h hs).len
  have hro := requests_rok h hs
  rw [← he] at hen hge hol hro
  generalize lineReqs ls ss = out at *
  refine AW.loop (S := fun k : Nat => ⟨[(3, .d (.lst (ls.map encLine))), (4, .d (.lst (ss.map encSpan))), (5, .d (.lst (out.map encN))), (6, .d (.int .i64 k))], [], 87, 0⟩)
    (Pre := fun k => k ≤ ss.length) (μ := fun k => ss.length - k) 0 (Nat.zero_le _) ?_ ?_
  · (refine xwk (π := []) (by decide) rfl ?_ ?_; (first | exact trivial); repeat' (first | exact renE_n | ((with_reducible apply renE_c); exact rfl; focus (first | (simp -implicitDefEqProofs only [go_sem, Int.reduceEq, Int.reduceLT, Int.reduceLE, Nat.reduceAdd, Nat.reduceSub, Nat.reduceMul, Nat.reduceEqDiff, Nat.reduceLeDiff, Nat.reducePow, ↓reduceIte, reduceCtorEq]; done)))))
  intro k hk
  by_cases hlt : k < ss.length
  · have hrow := at_map (f := encSpan) hlt
    have hok := hs.ok _ (List.getElem_mem hlt)
    have hens := hen _ (List.getElem_mem hlt)
    generalize ss[k] = s at *
    have ex : (out.drop s.at.toNat).take ((s.at + s.many).toNat - s.at.toNat) = slc out s.at.toNat s.many.toNat := by rw [slc, show (s.at + s.many).toNat - s.at.toNat = s.many.toNat by omega]
    have hn := hro.slc h.hi (a := s.at.toNat) (m := s.many.toNat)
    have ct : ACon Try.prog 26 [.d (.lst (((out.drop s.at.toNat).take ((s.at + s.many).toNat - s.at.toNat)).map encN))] [] (Is (.d (.int .i64 (sumI (slc out s.at.toNat s.many.toNat))))) := by rw [ex]; exact c_ltotal _ hn
    repeat' (first | ((with_reducible apply xsim); (first | ((with_reducible apply xlenM); exact rfl; exact rfl) | ((with_reducible apply xo); exact rfl) | with_reducible apply xend | ((with_reducible apply xidxL); exact rfl; exact rfl; exact rfl; (first | exact hrow); omega; first | exact rfl | simp only [hsz]) | ((with_reducible apply xslcB); exact rfl; exact rfl; exact rfl; exact rfl; exact (fun r hr => by obtain ⟨a, _, rfl⟩ := List.mem_map.1 hr; rfl); first | omega | (simp only [List.length_cons, List.length_nil]; omega)) | ((with_reducible apply xcallIs); exact rfl; exact rfl; exact ct; exact rfl))) | ((with_reducible apply xaw); (first | ((with_reducible apply xstepS); refine AW.step tok rfl ?_) | ((with_reducible apply xstep); refine AW.region tok rfl ?_) | with_reducible (first | refine AW.seq ?_ | refine AW.block ?_ | refine AW.skip ?_ | refine AW.ret ?_ | refine AW.exit ?_) | ((with_reducible apply xcond); exact rfl) | ((with_reducible apply xdraw (id := 10)); refine AW.draw (id := 10) (.q 0 (.q 1 (.q 2 (.q 3 (.q 4 (.q 5 (.q 6 (.q 7 (.q 8 (.q 9 (.q 10 (.q 11 (.q 12 (.q 13 (.q 14 (.q 15 (.q 16 (.q 17 (.q 19 (.q 20 (.q 21 (.q 22 (.two 18 (.e 23 (.q 24 (.fin))) 23 (.e 18 (.q 24 (.fin)))))))))))))))))))))))))) tok (by kernel_rfl) rfl (by kernel_rfl) ?_))) | ((with_reducible apply xarun); (first | ((with_reducible apply xrun_q); exact rfl; exact rfl; exact rfl) | ((with_reducible apply xrun_e); exact rfl) | with_reducible apply xrun_f | ((with_reducible apply xrun_2); exact rfl; exact rfl))) | with_reducible (first | refine xthen ?_ | refine xthen_r ?_ | refine xthen_e ?_ | refine xblock ?_ | refine xblock_r ?_ | refine xblock_e ?_ | refine xblock_n rfl ?_ | refine xround_r ?_ | refine xround_e ?_) | (with_reducible intro hc; (try simp only [decide_eq_true_eq, decide_eq_false_iff_not, Bool.not_true, Bool.not_false, Bool.not_eq_true', Bool.not_eq_false', ne_eq, not_true, reduceCtorEq, List.length_map] at hc); (try (exfalso; omega))) | with_reducible (first | exact trivial | refine And.intro ?_ ?_ | exact rfl | exact Nat.le_refl _) | (refine inR_i64.mpr ?_; first | omega | (simp only [List.length_map, List.length_map]; omega)))
    all_goals refine round_end (k+1) hlt (by omega) (by (refine xwk (π := []) (by decide) rfl ?_ ?_; (first | exact trivial); repeat' (first | exact renE_n | ((with_reducible apply renE_c); exact rfl; focus (first | (simp -implicitDefEqProofs only [go_sem, Int.reduceEq, Int.reduceLT, Int.reduceLE, Nat.reduceAdd, Nat.reduceSub, Nat.reduceMul, Nat.reduceEqDiff, Nat.reduceLeDiff, Nat.reducePow, ↓reduceIte, reduceCtorEq]; done))))))
  repeat' (first | ((with_reducible apply xsim); (first | ((with_reducible apply xlenM); exact rfl; exact rfl) | ((with_reducible apply xo); exact rfl) | with_reducible apply xend)) | ((with_reducible apply xaw); (first | ((with_reducible apply xstepS); refine AW.step tok rfl ?_) | with_reducible (first | refine AW.seq ?_ | refine AW.block ?_ | refine AW.skip ?_ | refine AW.ret ?_ | refine AW.exit ?_) | ((with_reducible apply xcond); exact rfl))) | with_reducible (first | refine xthen ?_ | refine xthen_r ?_ | refine xthen_e ?_ | refine xblock ?_ | refine xblock_r ?_ | refine xblock_e ?_ | refine xblock_n rfl ?_ | refine xround_r ?_ | refine xround_e ?_) | (with_reducible intro hc; (try simp only [decide_eq_true_eq, decide_eq_false_iff_not, Bool.not_true, Bool.not_false, Bool.not_eq_true', Bool.not_eq_false', ne_eq, not_true, reduceCtorEq, List.length_map] at hc); (try (exfalso; omega))) | with_reducible (first | exact trivial | refine And.intro ?_ ?_ | exact rfl | exact Nat.le_refl _))
  refine AW.loop (S := fun k : Nat => ⟨[(3, .d (.lst (ls.map encLine))), (5, .d (.lst (out.map encN))), (7, .d (.int .i64 k))], [], 87, 0⟩)
    (Pre := fun k => k ≤ out.length) (μ := fun k => out.length - k) 0 (Nat.zero_le _) ?_ ?_
  · (refine xwk (π := []) (by decide) rfl ?_ ?_; (first | exact trivial); repeat' (first | exact renE_n | ((with_reducible apply renE_c); exact rfl; focus (first | (simp -implicitDefEqProofs only [go_sem, Int.reduceEq, Int.reduceLT, Int.reduceLE, Nat.reduceAdd, Nat.reduceSub, Nat.reduceMul, Nat.reduceEqDiff, Nat.reduceLeDiff, Nat.reducePow, ↓reduceIte, reduceCtorEq]; done)))))
  intro k hk
  by_cases hlt : k < out.length
  · have hrow := at_map (f := encN) hlt
    have hrl := at_map (f := encLine) (xs := ls) (k := k) (by omega)
    have := hge k (by omega) hlt
    repeat' (first | ((with_reducible apply xsim); (first | ((with_reducible apply xlenM); exact rfl; exact rfl) | ((with_reducible apply xo); exact rfl) | with_reducible apply xend | ((with_reducible apply xidxL); exact rfl; exact rfl; exact rfl; (first | exact hrow | exact hrl); omega; first | exact rfl | simp only [hsz]))) | ((with_reducible apply xaw); (first | ((with_reducible apply xstepS); refine AW.step tok rfl ?_) | ((with_reducible apply xstep); refine AW.region tok rfl ?_) | with_reducible (first | refine AW.seq ?_ | refine AW.block ?_ | refine AW.skip ?_ | refine AW.ret ?_ | refine AW.exit ?_) | ((with_reducible apply xcond); exact rfl) | ((with_reducible apply xdraw (id := 15)); refine AW.draw (id := 15) (.q 0 (.q 1 (.q 2 (.q 3 (.q 4 (.q 5 (.q 6 (.q 7 (.q 8 (.q 9 (.fin))))))))))) tok (by kernel_rfl) rfl (by kernel_rfl) ?_))) | ((with_reducible apply xarun); (first | ((with_reducible apply xrun_q); exact rfl; exact rfl; exact rfl) | with_reducible apply xrun_f)) | with_reducible (first | refine xthen ?_ | refine xthen_r ?_ | refine xthen_e ?_ | refine xblock ?_ | refine xblock_r ?_ | refine xblock_e ?_ | refine xblock_n rfl ?_ | refine xround_r ?_ | refine xround_e ?_) | (with_reducible intro hc; (try simp only [decide_eq_true_eq, decide_eq_false_iff_not, Bool.not_true, Bool.not_false, Bool.not_eq_true', Bool.not_eq_false', ne_eq, not_true, reduceCtorEq, List.length_map] at hc); (try (exfalso; omega))) | with_reducible (first | exact trivial | refine And.intro ?_ ?_ | exact rfl | exact Nat.le_refl _) | (refine inR_i64.mpr ?_; first | omega | (simp only [List.length_map, List.length_map]; omega)))
    all_goals refine round_end (k+1) hlt (by omega) (by (refine xwk (π := []) (by decide) rfl ?_ ?_; (first | exact trivial); repeat' (first | exact renE_n | ((with_reducible apply renE_c); exact rfl; focus (first | (simp -implicitDefEqProofs only [go_sem, Int.reduceEq, Int.reduceLT, Int.reduceLE, Nat.reduceAdd, Nat.reduceSub, Nat.reduceMul, Nat.reduceEqDiff, Nat.reduceLeDiff, Nat.reducePow, ↓reduceIte, reduceCtorEq]; done))))))
  repeat' (first | ((with_reducible apply xsim); (first | ((with_reducible apply xlenM); exact rfl; exact rfl) | ((with_reducible apply xo); exact rfl) | with_reducible apply xend)) | ((with_reducible apply xaw); (first | ((with_reducible apply xstepS); refine AW.step tok rfl ?_) | with_reducible (first | refine AW.seq ?_ | refine AW.block ?_ | refine AW.skip ?_ | refine AW.ret ?_ | refine AW.exit ?_) | ((with_reducible apply xcond); exact rfl))) | with_reducible (first | refine xthen ?_ | refine xthen_r ?_ | refine xthen_e ?_ | refine xblock ?_ | refine xblock_r ?_ | refine xblock_e ?_ | refine xblock_n rfl ?_ | refine xround_r ?_ | refine xround_e ?_) | (with_reducible intro hc; (try simp only [decide_eq_true_eq, decide_eq_false_iff_not, Bool.not_true, Bool.not_false, Bool.not_eq_true', Bool.not_eq_false', ne_eq, not_true, reduceCtorEq, List.length_map] at hc); (try (exfalso; omega))) | with_reducible (first | exact trivial | refine And.intro ?_ ?_ | exact rfl | exact Nat.le_refl _))
  (refine xfinIs (by first | exact .inl rfl | exact .inr rfl) rfl (by repeat' (first | exact trivial | exact rfl | refine And.intro ?_ ?_)) rfl ?_ rfl; first | (simp -implicitDefEqProofs only [go_sem, Int.reduceEq, Int.reduceLT, Int.reduceLE, Nat.reduceAdd, Nat.reduceSub, Nat.reduceMul, Nat.reduceEqDiff, Nat.reduceLeDiff, Nat.reducePow, ↓reduceIte, reduceCtorEq, hol, decide_true] <;> (first | rfl | omega | exact decide_eq_decide.2 (by omega) | exact decide_eq_false (by omega) | exact decide_eq_true (by omega) | (symm; first | exact decide_eq_false (by omega) | exact decide_eq_true (by omega)) | (rw [Bool.eq_iff_iff]; simp only [Bool.not_eq_true', Bool.not_eq_false', Bool.and_eq_true, Bool.or_eq_true, decide_eq_true_eq, decide_eq_false_iff_not, reduceCtorEq, true_iff, iff_true, false_iff, iff_false]; omega))))

theorem c_FnLineSizesWish (cs : List Byte) (hl : cs.length < 2^63) : ACon Try.prog 9 [.d (.lst (cs.map encByte))] [] (Is (.d (.bool true))) := by
  refine ACon.introW tok (nt := 55) Try.func9 rfl rfl rfl (by kernel_rfl) rfl ?_
  repeat' (first | ((with_reducible apply xsim); (first | ((with_reducible apply xlenM); exact rfl; exact rfl) | ((with_reducible apply xo); exact rfl) | with_reducible apply xend | ((with_reducible apply xguardS); exact rfl; exact rfl) | ((with_reducible apply xcallIs); exact rfl; exact rfl; (first | exact ORows.data (c_lineSzI _ _ _ (by omega) (by omega)) | exact ORows.data (c_lineSzS _ _ _ (by omega) (by omega)) | exact ORows.data (c_lineReqsI _ _ (by omega) (by omega)) | exact c_ltotal _ lineReqs_nums | exact c_laws.equalInts _ (Nat.lt_of_le_of_lt lineSz_small (by decide))); exact rfl) | ((with_reducible apply xcallSm); exact rfl; exact rfl; exact c_DrawLineSizes cs hl; rintro _ ⟨ls, ss, room, rfl, hx, hy⟩) | simp -implicitDefEqProofs only [go_sem, Int.reduceEq, Int.reduceLT, Int.reduceLE, Nat.reduceAdd, Nat.reduceSub, Nat.reduceMul, Nat.reduceEqDiff, Nat.reduceLeDiff, Nat.reducePow, ↓reduceIte, reduceCtorEq, List.length_map])) | ((with_reducible apply xaw); (first | ((with_reducible apply xstepS); refine AW.step tok rfl ?_) | with_reducible (first | refine AW.seq ?_ | refine AW.block ?_ | refine AW.skip ?_ | refine AW.ret ?_ | refine AW.exit ?_) | ((with_reducible apply xcond); exact rfl))) | with_reducible (first | refine xthen ?_ | refine xthen_r ?_ | refine xthen_e ?_ | refine xblock ?_ | refine xblock_r ?_ | refine xblock_e ?_ | refine xblock_n rfl ?_ | refine xround_r ?_ | refine xround_e ?_) | (with_reducible intro hc; (try simp only [decide_eq_true_eq, decide_eq_false_iff_not, Bool.not_true, Bool.not_false, Bool.not_eq_true', Bool.not_eq_false', ne_eq, not_true, reduceCtorEq, List.length_map] at hc); (try (exfalso; omega))) | with_reducible (first | exact trivial | refine And.intro ?_ ?_ | exact rfl | exact Nat.le_refl _))
  · (refine xfinIs (by first | exact .inl rfl | exact .inr rfl) rfl (by repeat' (first | exact trivial | exact rfl | refine And.intro ?_ ?_)) rfl ?_ rfl; first | with_reducible exact rfl)
  · (refine xfinIs (by first | exact .inl rfl | exact .inr rfl) rfl (by repeat' (first | exact trivial | exact rfl | refine And.intro ?_ ?_)) rfl ?_ rfl; first | with_reducible exact rfl)
  · have e := lineSz_wish (ls := ls) (ss := ss) (room := room) (by omega) (by omega)
    rw [e]
    refine ACall.is rfl (c_laws.equalInts _ (Nat.lt_of_le_of_lt lineReqs_small (by decide))) ?_
    rw [noRef_back rfl]
    try unfold contC
    repeat' (first | ((with_reducible apply xsim); (first | ((with_reducible apply xo); exact rfl) | with_reducible apply xend)) | ((with_reducible apply xaw); (first | with_reducible (first | refine AW.seq ?_ | refine AW.block ?_ | refine AW.skip ?_ | refine AW.ret ?_ | refine AW.exit ?_))) | with_reducible (first | exact trivial | refine And.intro ?_ ?_ | exact rfl | exact Nat.le_refl _))
    (refine xfinIs (by first | exact .inl rfl | exact .inr rfl) rfl (by repeat' (first | exact trivial | exact rfl | refine And.intro ?_ ?_)) rfl ?_ rfl; first | with_reducible exact rfl)
  · (refine xfinIs (by first | exact .inl rfl | exact .inr rfl) rfl (by repeat' (first | exact trivial | exact rfl | refine And.intro ?_ ?_)) rfl ?_ rfl; first | with_reducible exact rfl)

theorem nil2 {P : Program} {f : Nat} {a : V} {Q : V → List O → Prop} (h : ACon P f [a, .d (.lst [])] [] Q) : ACon P f [a, .nils] [] Q := by
  refine ⟨h.1, fun w ok ρ vs hI hs hv => h.2 w ok ρ vs hI hs fun i x hx => ?_⟩
  match i with
  | 0 => exact hv 0 x (by simpa using hx)
  | 1 =>
    obtain rfl : V.d (.lst []) = x := by simpa using hx
    have := hv 1 .nils rfl
    generalize vs.getD 1 undef = v at this ⊢
    cases this
    exact .d .nil
  | n + 2 => simp at hx
theorem spansOk_more {ss : List Span} {n : Nat} {s : Span} (h1 : SOk ss n) (h : ¬ (8 : Int) ≤ ss.length) (hs : 0 ≤ s.at ∧ s.at ≤ (n : Int) - 1 ∧ 1 ≤ s.many ∧ s.many ≤ n - s.at ∧ 0 ≤ s.need ∧ s.need ≤ 50) : spansOk (ss ++ [s]) n = true := by
  simp only [spansOk, Bool.and_eq_true, decide_eq_true_eq, List.all_eq_true, List.length_append, List.length_cons, List.length_nil]
  refine ⟨by omega, fun t ht => ?_⟩
  rcases List.mem_append.1 ht with ht | ht
  · exact decide_eq_true (h1.ok t ht)
  · obtain rfl := List.mem_singleton.1 ht
    exact decide_eq_true hs
theorem linesOk_of {ls : List Line} (h : LOk ls) : linesOk ls = true := by
  simp only [linesOk, Bool.and_eq_true, decide_eq_true_eq, List.all_eq_true]
  exact ⟨⟨h.lo, h.hi⟩, fun l hl => decide_eq_true (h.ok l hl)⟩

theorem c_FnLineRequestsNone (cs : List Byte) (hl : cs.length < 2^63) : ACon Try.prog 5 [.d (.lst (cs.map encByte))] [] (Is (.d (.bool true))) := by
  refine ACon.introW tok (nt := 84) Try.func5 rfl rfl rfl (by kernel_rfl) rfl ?_
  repeat' (first | ((with_reducible apply xsim); (first | ((with_reducible apply xlenM); exact rfl; exact rfl) | ((with_reducible apply xo); exact rfl) | with_reducible apply xend | ((with_reducible apply xguardS); exact rfl; exact rfl) | ((with_reducible apply xcallIs); exact rfl; exact rfl; (first | exact ORows.data (c_lineReqsI _ _ (by omega) (by omega)) | exact ORows.data (c_lineReqsS _ _ (by omega) (by omega)) | exact nil2 (ORows.data (c_lineReqsI _ [] (by omega) (by simp))) | exact c_laws.equalInts _ (Nat.lt_of_le_of_lt lineReqs_small (by decide))); exact rfl) | ((with_reducible apply xcallSm); exact rfl; exact rfl; exact c_DrawLineRequests cs hl; rintro _ ⟨ls, ss, rfl, hx, hy⟩))) | ((with_reducible apply xaw); (first | ((with_reducible apply xstepS); refine AW.step tok rfl ?_) | with_reducible (first | refine AW.seq ?_ | refine AW.block ?_ | refine AW.skip ?_ | refine AW.ret ?_ | refine AW.exit ?_) | ((with_reducible apply xcond); exact rfl))) | with_reducible (first | refine xthen ?_ | refine xthen_r ?_ | refine xthen_e ?_ | refine xblock ?_ | refine xblock_r ?_ | refine xblock_e ?_ | refine xblock_n rfl ?_ | refine xround_r ?_ | refine xround_e ?_) | (with_reducible intro hc; (try simp only [decide_eq_true_eq, decide_eq_false_iff_not, Bool.not_true, Bool.not_false, Bool.not_eq_true', Bool.not_eq_false', ne_eq, not_true, reduceCtorEq, List.length_map] at hc); (try (exfalso; omega))) | with_reducible (first | exact trivial | refine And.intro ?_ ?_ | exact rfl | exact Nat.le_refl _))
  · (refine xfinIs (by first | exact .inl rfl | exact .inr rfl) rfl (by repeat' (first | exact trivial | exact rfl | refine And.intro ?_ ?_)) rfl ?_ rfl; first | with_reducible exact rfl)
  · (refine xfinIs (by first | exact .inl rfl | exact .inr rfl) rfl (by repeat' (first | exact trivial | exact rfl | refine And.intro ?_ ?_)) rfl ?_ rfl; first | with_reducible exact rfl)
  obtain ⟨h, hs, he⟩ := lineReqs_ok (ls := ls) (ss := ss) (by omega)
  have hlo := h.lo
  have hsm := lineReqs_small (ls := ls) (ss := ss)
  have hge := (requests_ge h hs).ge
  have hol := (requests_rok h hs).len
  have hro := requests_rok h hs
  have h0 := lineReqs_of (linesOk_of h) (ss := []) (by simp [spansOk])
  rw [requests_nil] at h0
  have hmo := fun s a b c => requests_more h hs (s := s) a b c
  have hmv := fun s a b => spansOk_more hs (s := s) a b
  have hlm := fun s (hv : spansOk (ss ++ [s]) ls.length = true) => lineReqs_of (linesOk_of h) hv
  have hni := lineReqs_nums (ls := ls) (ss := ss)
  have hsum := lineReqs_sum (ls := ls) (ss := ss)
  have ct := c_ltotal _ hni
  rw [← he] at hge hol hro hmo
  rw [h0]
  have hml := mins_len ls
  generalize lineReqs ls ss = out at *
  refine AW.loop (S := fun k : Nat => ⟨[(3, .d (.lst (ls.map encLine))), (4, .d (.lst (ss.map encSpan))), (5, .d (.lst (out.map encN))), (6, .d (.lst ((mins ls).map encN))), (7, .d (.int .i64 k))], [], 84, 0⟩)
    (Pre := fun k => k ≤ ls.length) (μ := fun k => ls.length - k) 0 (Nat.zero_le _) ?_ ?_
  · (refine xwk (π := []) (by decide) rfl ?_ ?_; (first | exact trivial); repeat' (first | exact renE_n | ((with_reducible apply renE_c); exact rfl; focus (first | (simp -implicitDefEqProofs only [go_sem, Int.reduceEq, Int.reduceLT, Int.reduceLE, Nat.reduceAdd, Nat.reduceSub, Nat.reduceMul, Nat.reduceEqDiff, Nat.reduceLeDiff, Nat.reducePow, ↓reduceIte, reduceCtorEq]; done)))))
  intro k hk
  by_cases hlt : k < ls.length
  · have hrow := at_map (f := encLine) hlt
    have hro := at_map (f := encN) (xs := out) (k := k) (by omega)
    have hrm := at_map (f := encN) (xs := mins ls) (k := k) (by omega)
    have hmk : (mins ls)[k]'(by omega) = ls[k].min := by simp [mins]
    rw [hmk] at hrm
    have := hge k (by omega) (by omega)
    repeat' (first | ((with_reducible apply xsim); (first | ((with_reducible apply xlenM); exact rfl; exact rfl) | ((with_reducible apply xo); exact rfl) | with_reducible apply xend | ((with_reducible apply xguardS); exact rfl; exact rfl) | ((with_reducible apply xidxL); exact rfl; exact rfl; exact rfl; (first | exact hrow | exact hro | exact hrm); omega; first | exact rfl | simp only [hsz]))) | ((with_reducible apply xaw); (first | ((with_reducible apply xstepS); refine AW.step tok rfl ?_) | ((with_reducible apply xstep); refine AW.region tok rfl ?_) | with_reducible (first | refine AW.seq ?_ | refine AW.block ?_ | refine AW.skip ?_ | refine AW.ret ?_ | refine AW.exit ?_) | ((with_reducible apply xcond); exact rfl) | ((with_reducible apply xdraw (id := 11)); refine AW.draw (id := 11) (.q 0 (.q 1 (.q 2 (.q 3 (.q 4 (.q 5 (.q 6 (.q 7 (.q 8 (.q 9 (.q 10 (.q 11 (.q 12 (.q 13 (.q 14 (.q 15 (.q 16 (.q 17 (.q 18 (.q 19 (.q 20 (.fin)))))))))))))))))))))) tok (by kernel_rfl) rfl (by kernel_rfl) ?_))) | ((with_reducible apply xarun); (first | ((with_reducible apply xrun_q); exact rfl; exact rfl; exact rfl) | with_reducible apply xrun_f)) | with_reducible (first | refine xthen ?_ | refine xthen_r ?_ | refine xthen_e ?_ | refine xblock ?_ | refine xblock_r ?_ | refine xblock_e ?_ | refine xblock_n rfl ?_ | refine xround_r ?_ | refine xround_e ?_) | (with_reducible intro hc; (try simp only [decide_eq_true_eq, decide_eq_false_iff_not, Bool.not_true, Bool.not_false, Bool.not_eq_true', Bool.not_eq_false', ne_eq, not_true, reduceCtorEq, List.length_map] at hc); (try (exfalso; omega))) | with_reducible (first | exact trivial | refine And.intro ?_ ?_ | exact rfl | exact Nat.le_refl _) | (refine inR_i64.mpr ?_; first | omega | (simp only [List.length_map, List.length_map]; omega)))
    all_goals refine round_end (k+1) hlt (by omega) (by (refine xwk (π := []) (by decide) rfl ?_ ?_; (first | exact trivial); repeat' (first | exact renE_n | ((with_reducible apply renE_c); exact rfl; focus (first | (simp -implicitDefEqProofs only [go_sem, Int.reduceEq, Int.reduceLT, Int.reduceLE, Nat.reduceAdd, Nat.reduceSub, Nat.reduceMul, Nat.reduceEqDiff, Nat.reduceLeDiff, Nat.reducePow, ↓reduceIte, reduceCtorEq]; done))))))
  have hsb := sum50 hro h.hi
  have h8 : ¬ (8 : Int) ≤ ss.length := by omega
  have hsp : 0 ≤ (⟨0, ls.length, min (sumI out) 30⟩ : Span).at ∧ (⟨0, ls.length, min (sumI out) 30⟩ : Span).at ≤ (ls.length : Int) - 1 ∧ 1 ≤ (⟨0, ls.length, min (sumI out) 30⟩ : Span).many ∧ (⟨0, ls.length, min (sumI out) 30⟩ : Span).many ≤ ls.length - (⟨0, ls.length, min (sumI out) 30⟩ : Span).at ∧ 0 ≤ (⟨0, ls.length, min (sumI out) 30⟩ : Span).need ∧ (⟨0, ls.length, min (sumI out) 30⟩ : Span).need ≤ 50 := by dsimp only; omega
  have hmv := hmv _ h8 hsp
  have hlm := hlm _ hmv
  rw [hmo _ rfl rfl (by dsimp only; omega)] at hlm
  have htk : List.take (ss.length + 1) (ss.map encSpan ++ [[.int .i64 0, .int .i64 ls.length, .int .i64 (min (sumI out) 30)]]) = ss.map encSpan ++ [[.int .i64 0, .int .i64 ls.length, .int .i64 (min (sumI out) 30)]] := List.take_of_length_le (by simp)
  have cM := c_lineReqsI ls (ss ++ [⟨0, ls.length, min (sumI out) 30⟩]) (by omega) (by simp; omega)
  rw [hlm, List.map_append, List.map_cons, List.map_nil] at cM
  rw [show encSpan ⟨0, ls.length, min (sumI out) 30⟩ = [.int .i64 0, .int .i64 ls.length, .int .i64 (min (sumI out) 30)] from rfl] at cM
  repeat' (first | ((with_reducible apply xsim); (first | ((with_reducible apply xlenM); exact rfl; exact rfl) | ((with_reducible apply xo); exact rfl) | with_reducible apply xend | ((with_reducible apply xbuild); exact rfl; exact rfl; exact rfl; exact rfl; exact rfl; simp only [backV, backVs, backVs_mapd, backId, backO, List.map_cons, List.map_nil, List.getElem?_nil, List.length_cons, List.length_nil, Nat.reduceAdd, Nat.reduceSub, List.cons_append, List.nil_append, List.append_nil]) | simp -implicitDefEqProofs only [go_sem, Int.reduceEq, Int.reduceLT, Int.reduceLE, Nat.reduceAdd, Nat.reduceSub, Nat.reduceMul, Nat.reduceEqDiff, Nat.reduceLeDiff, Nat.reducePow, ↓reduceIte, reduceCtorEq, List.length_map])) | ((with_reducible apply xaw); (first | ((with_reducible apply xstepS); refine AW.step tok rfl ?_) | with_reducible (first | refine AW.seq ?_ | refine AW.block ?_ | refine AW.skip ?_ | refine AW.ret ?_ | refine AW.exit ?_) | ((with_reducible apply xcond); exact rfl))) | with_reducible (first | refine xthen ?_ | refine xthen_r ?_ | refine xthen_e ?_ | refine xblock ?_ | refine xblock_r ?_ | refine xblock_e ?_ | refine xblock_n rfl ?_ | refine xround_r ?_ | refine xround_e ?_) | (with_reducible intro hc; (try simp only [decide_eq_true_eq, decide_eq_false_iff_not, Bool.not_true, Bool.not_false, Bool.not_eq_true', Bool.not_eq_false', ne_eq, not_true, reduceCtorEq, List.length_map] at hc); (try (exfalso; omega))) | with_reducible (first | exact trivial | refine And.intro ?_ ?_ | exact rfl | exact Nat.le_refl _) | omega)
  refine ACall.is rfl ct ?_
  rw [noRef_back rfl]
  try unfold contC
  have htk2 : List.take out.length (out.map encN) = out.map encN := List.take_of_length_le (by simp)
  repeat' (first | ((with_reducible apply xsim); (first | ((with_reducible apply xo); exact rfl) | with_reducible apply xend | ((with_reducible apply xbuild); exact rfl; exact rfl; exact rfl; exact rfl; exact rfl; simp only [backV, backVs, backVs_mapd, backId, backO, List.map_cons, List.map_nil, List.getElem?_nil, List.length_cons, List.length_nil, Nat.reduceAdd, Nat.reduceSub, List.cons_append, List.nil_append, List.append_nil]) | ((with_reducible apply xcallLend [4]); exact rfl; exact c_laws.equalInts _ (Nat.lt_of_le_of_lt hsm (by decide)); (focus (first | exact rfl | (simp -implicitDefEqProofs only [go_sem, ↓reduceIte, Nat.reduceEqDiff, List.length_map, List.length_append, List.length_cons, List.length_nil, htk, htk2, Nat.zero_add, Nat.le_refl, List.drop_zero]; done))); exact rfl; exact rfl) | ((with_reducible apply xcallOwnLend [3]); exact rfl; exact cM; (focus (first | exact rfl | (simp -implicitDefEqProofs only [go_sem, ↓reduceIte, Nat.reduceEqDiff, List.length_map, List.length_append, List.length_cons, List.length_nil, htk, htk2, Nat.zero_add, Nat.le_refl, List.drop_zero]; done))); (focus (first | exact ⟨rfl, flat1 (fun _ => rfl)⟩ | (simp -implicitDefEqProofs only [go_sem, Int.reduceEq, Int.reduceLT, Int.reduceLE, Nat.reduceAdd, Nat.reduceSub, Nat.reduceMul, Nat.reduceEqDiff, Nat.reduceLeDiff, Nat.reducePow, ↓reduceIte, reduceCtorEq]; done))); simp only [backV, backVs, backVs_mapd, backId, backO, List.map_cons, List.map_nil, List.getElem?_nil, List.length_cons, List.length_nil, Nat.reduceAdd, Nat.reduceSub, List.cons_append, List.nil_append, List.append_nil]) | simp -implicitDefEqProofs only [go_sem, Int.reduceEq, Int.reduceLT, Int.reduceLE, Nat.reduceAdd, Nat.reduceSub, Nat.reduceMul, Nat.reduceEqDiff, Nat.reduceLeDiff, Nat.reducePow, ↓reduceIte, reduceCtorEq, List.length_map, List.length_append, List.length_cons, List.length_nil, htk, htk2, Nat.zero_add, Nat.le_refl, List.drop_zero])) | ((with_reducible apply xaw); (first | ((with_reducible apply xstepS); refine AW.step tok rfl ?_) | with_reducible (first | refine AW.seq ?_ | refine AW.block ?_ | refine AW.skip ?_ | refine AW.ret ?_ | refine AW.exit ?_))) | with_reducible (first | exact trivial | refine And.intro ?_ ?_ | exact rfl | exact Nat.le_refl _) | omega)
  (refine xfinIs (by first | exact .inl rfl | exact .inr rfl) rfl (by repeat' (first | exact trivial | exact rfl | refine And.intro ?_ ?_)) rfl ?_ rfl; first | with_reducible exact rfl)
end Go.Proofs.Ytemihgpcodcjgaa
