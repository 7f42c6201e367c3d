import Derived.Test.YtiajmkppilmjdaaD6
set_option linter.unusedSimpArgs false
set_option linter.unusedVariables false
namespace Go.Proofs.Ytiajmkppilmjdaa
open Go.Fw
@[go_sem] def lv13 : List (List Nat) := [[0], [5], [5, 6], [5, 6, 7], [5, 6, 7, 22], [5, 6], [5, 6, 7], [2, 3, 4]]
@[go_sem] def lv3 : List (List Nat) := [[0], [0, 12], [2], [3, 4, 5], [3, 4, 5, 6], [3, 4, 5, 6, 32], [2], [4, 5, 6, 7, 8], [4, 5, 6, 8, 9], [4, 6, 8, 9, 45], [4, 6, 9], [4, 6, 9, 49], [2], [2]]


def reqD (d : Bool) (xs : List Pack) : Int := if d then (reqs xs).2 else (reqs xs).1
def shFin (s : Int × Int × Int) : Int := min s.1 ((max s.2.2 0).tdiv s.2.1)

theorem shFold_fst (d : Bool) : ∀ (xs : List Pack) (s : Int × Int × Int), (xs.foldl (shStep d) s).1 ≤ s.1
  | [], s => Int.le_refl _
  | p :: ps, s => by
    refine Int.le_trans (shFold_fst d ps (shStep d s p)) ?_
    unfold shStep
    split
    · exact Int.le_refl _
    · dsimp only; omega

theorem shFold_le (d : Bool) : ∀ (xs : List Pack) (s : Int × Int × Int), xs.all validPack = true → shFin (xs.foldl (shStep d) s) ≤ max (s.2.2 - reqD d xs) 0
  | [], s, _ => by
    have h := Int.tdiv_le_self s.2.1 (show 0 ≤ max s.2.2 0 by omega)
    simp only [List.foldl_nil, shFin, reqD, reqs]
    split <;> omega
  | p :: ps, s, hv => by
    simp only [List.all_cons, Bool.and_eq_true] at hv
    have ih := shFold_le d ps (shStep d s p) hv.2
    have hf := shFold_fst d ps (shStep d s p)
    have hn := needWH hv.1
    have hfin : shFin ((p :: ps).foldl (shStep d) s) ≤ ((p :: ps).foldl (shStep d) s).1 := by unfold shFin; omega
    rw [List.foldl_cons] at hfin ⊢
    unfold shStep at ih hf hfin ⊢
    unfold reqD at ih ⊢
    by_cases hd : down p = d
    · simp only [if_pos hd] at ih hf hfin ⊢
      refine Int.le_trans ih ?_
      cases d
      · simp only [reqs, hd, need, Bool.false_eq_true, if_false]; omega
      · simp only [reqs, hd, need, if_true]; omega
    · simp only [if_neg hd] at ih hf hfin ⊢
      have h := Int.tdiv_le_self s.2.1 (show 0 ≤ max (s.2.2 - need p d) 0 by omega)
      have hm : (min s.1 ((max (s.2.2 - need p d) 0).tdiv s.2.1)) ≤ max (s.2.2 - need p d) 0 := by omega
      have hb := Int.le_trans hfin (Int.le_trans hf hm)
      cases d
      · have hd : down p = true := by simpa using hd
        simp only [reqs, hd, need, Bool.false_eq_true, if_false, if_true] at ih hb ⊢
        omega
      · have hd : down p = false := by simpa using hd
        simp only [reqs, hd, need, Bool.false_eq_true, if_false, if_true] at ih hb ⊢
        omega

theorem share_req {xs : List Pack} {room : Int} {d : Bool} (hv : xs.all validPack = true) : share xs room d ≤ max (room - reqD d xs) 0 := shFold_le d xs (room, 0, room) hv

theorem expShare_ok {xs : List Pack} {room : Int} {d : Bool} (h : ¬ expShare xs room d < 0) : packsOk xs = true ∧ (0 ≤ room ∧ room ≤ 400) ∧ expShare xs room d ≤ room ∧ (reqD d xs ≤ room → expShare xs room d ≤ room - reqD d xs) := by
  cases xs with
  | nil => exact absurd (show expShare [] room d < 0 from (by show (-1 : Int) < 0; decide)) h
  | cons p ps =>
    unfold expShare at h ⊢
    dsimp only at h ⊢
    split at h
    · rename_i hh
      rw [if_pos hh]
      simp only [Bool.and_eq_true, decide_eq_true_eq, beq_iff_eq] at hh
      obtain ⟨⟨⟨h1, h2⟩, h3⟩, h4⟩ := hh
      obtain ⟨g1, g2⟩ := packsOk_iff h1
      have hb := share_bd (xs := p :: ps) (d := d) h2 g1 g2 ⟨p, rfl, h3, h4⟩
      have hr := share_req (room := room) (d := d) g2
      exact ⟨h1, h2, hb.2, fun hq => by omega⟩
    · exact absurd (by decide) h

theorem packRequest_ok {xs : List Pack} (h : packsOk xs = true) : packRequest xs = reqs xs := by unfold packRequest; rw [if_pos h]

theorem at_0 {xs : List Pack} (h : 0 < xs.length) : (xs.map encPack)[idxAdd 0 (Int.toNat 0)]? = some (encPack xs[0]) := at_map (f := encPack) h
theorem at_set0 {xs : List Pack} {r : List D} (h : 0 < xs.length) : ((xs.map encPack).set (idxAdd 0 (Int.toNat 0)) r)[idxAdd 0 (Int.toNat 0)]? = some r := List.getElem?_set_self (by simpa [idxAdd] using h)

def AShare (r : V) : Prop := ∃ (xs : List Pack) (room : Int) (d : Bool), r = .tup [.d (.lst (xs.map encPack)), .d (.int .i64 room), .d (.bool d)] ∧ xs.length ≤ 8

theorem c_DrawExpandShare (cs : List Byte) (hl : cs.length < 2^63) : ACon Try.prog 13 [.d (.lst (cs.map encByte))] [] (Sm AShare) := by
  have hb : (cs.take 2000).length ≤ 2000 := by rw [List.length_take]; omega
  refine ACon.introW tok (nt := 36) Try.func13 rfl rfl rfl (by kernel_rfl) rfl ?_
  repeat' (first | ((with_reducible apply xsim); (first | ((with_reducible apply xlenM); exact rfl; exact rfl) | ((with_reducible apply xo); exact rfl) | ((with_reducible apply xst); exact rfl) | with_reducible apply xend | ((with_reducible apply xguardS); exact rfl; exact rfl) | ((with_reducible apply xbuild); exact rfl; exact rfl; exact rfl; exact rfl; exact rfl; simp only [backV, backVs, backVs_mapd, backId, backO, List.map_cons, List.map_nil, List.getElem?_nil, List.length_cons, List.length_nil, Nat.reduceAdd, Nat.reduceSub, List.cons_append, List.nil_append, List.append_nil]) | ((with_reducible apply xidxL); exact rfl; exact rfl; exact rfl; (first | exact (at_0 (by omega)) | exact (at_set0 (by omega))); omega; first | exact rfl | simp only [hsz]) | ((with_reducible apply xidxM); exact rfl; exact rfl; exact rfl; omega; omega; exact rfl) | ((with_reducible apply xldA); exact rfl; exact rfl; exact rfl; (first | exact (at_0 (by omega)) | exact (at_set0 (by omega))); exact rfl) | ((with_reducible apply xstA); exact rfl; exact rfl; exact rfl; exact rfl; (first | exact (at_0 (by omega)) | exact (at_set0 (by omega))); exact rfl; exact rfl; exact rfl; exact rfl; (try simp only [List.set_cons_zero, List.set_cons_succ, List.length_map])) | ((with_reducible apply xcallIs); exact rfl; exact rfl; exact c_upright _; exact rfl) | ((with_reducible apply xcallOwn); exact rfl; exact rfl; exact c_newReader cs hl; simp only [backV, backVs, backVs_mapd, backId, backO, List.map_cons, List.map_nil, List.getElem?_nil, List.length_cons, List.length_nil, Nat.reduceAdd, Nat.reduceSub, List.cons_append, List.nil_append, List.append_nil]) | ((with_reducible apply xcallRdA); exact rfl; exact rfl; exact rfl; exact c_AsomePacks _ _ hb (by omega); rintro p' xs _ _ hx; simp only [backV, backVs, backVs_mapd, backId, backO, List.map_cons, List.map_nil, List.getElem?_nil, List.length_cons, List.length_nil, Nat.reduceAdd, Nat.reduceSub, List.cons_append, List.nil_append, List.append_nil, List.set_cons_zero, List.set_cons_succ]) | ((with_reducible apply xcallRd); exact rfl; exact rfl; exact rfl; exact c_pick _ _ _ hb (by omega) (by omega); rintro _ p' _ _ ⟨v, rfl, h1, h2, h3⟩; (try simp only [List.set_cons_zero, List.set_cons_succ])) | ((with_reducible apply xcallOne); exact rfl; exact rfl; exact rfl; exact rfl; exact c_oneB rfl rfl rfl hb (by omega) rfl rfl; rintro _ p' _ _ ⟨v, rfl, h1, h2, h3⟩; (try simp only [List.set_cons_zero, List.set_cons_succ])) | simp -implicitDefEqProofs only [go_sem, Int.reduceEq, Int.reduceLT, Int.reduceLE, Nat.reduceAdd, Nat.reduceSub, Nat.reduceMul, Nat.reduceEqDiff, Nat.reduceLeDiff, Nat.reducePow, ↓reduceIte, reduceCtorEq, List.length_map])) | ((with_reducible apply xaw); (first | ((with_reducible apply xstepS); refine AW.step tok rfl ?_) | ((with_reducible apply xstep); refine AW.region tok rfl ?_) | with_reducible (first | refine AW.seq ?_ | refine AW.block ?_ | refine AW.skip ?_ | refine AW.ret ?_ | refine AW.exit ?_) | ((with_reducible apply xcond); exact rfl))) | with_reducible (first | refine xthen ?_ | refine xthen_r ?_ | refine xthen_e ?_ | refine xblock ?_ | refine xblock_r ?_ | refine xblock_e ?_ | refine xblock_n rfl ?_ | refine xround_r ?_ | refine xround_e ?_) | (with_reducible intro hc; (try simp only [decide_eq_true_eq, decide_eq_false_iff_not, Bool.not_true, Bool.not_false, Bool.not_eq_true', Bool.not_eq_false', ne_eq, not_true, reduceCtorEq, List.length_map] at hc); (try (exfalso; omega))) | with_reducible (first | exact trivial | refine And.intro ?_ ?_ | exact rfl | exact Nat.le_refl _) | exact Eq.refl true | exact (rfl : (_ : List Nat) = _) | exact Nat.le_of_ble_eq_true rfl | (refine inR_i64.mpr ?_; first | omega | (simp only [List.length_map, List.length_map]; omega)) | omega)
  · refine xfinW (Weak.freezeA 2 1 9 rfl rfl (by simp)) ?_
    refine xfinSm (by first | exact .inl rfl | exact .inr rfl) rfl (by repeat' (first | exact trivial | exact rfl | refine And.intro ?_ ?_)) rfl ?_
    exact ⟨xs.set 0 ⟨xs[0].w, xs[0].h, xs[0].side, xs[0].fillX, xs[0].fillY, true, xs[0].anchor, xs[0].padX, xs[0].padY⟩, _, _, by rw [List.map_set]; rfl, by simpa using hx⟩
  all_goals
    refine xfinW (Weak.freezeA 2 1 9 rfl rfl (by simp)) ?_
    refine xfinSm (by first | exact .inl rfl | exact .inr rfl) rfl (by repeat' (first | exact trivial | exact rfl | refine And.intro ?_ ?_)) rfl ?_
    exact ⟨xs, _, _, rfl, hx⟩

theorem c_FnExpandShare (cs : List Byte) (hl : cs.length < 2^63) : ACon Try.prog 3 [.d (.lst (cs.map encByte))] [] (Is (.d (.bool true))) := by
  refine ACon.introW tok (nt := 58) Try.func3 rfl rfl rfl (by kernel_rfl) rfl ?_
  repeat' (first | ((with_reducible apply xsim); (first | ((with_reducible apply xlenM); exact rfl; exact rfl) | ((with_reducible apply xo); exact rfl) | with_reducible apply xend | ((with_reducible apply xguardS); exact rfl; exact rfl) | ((with_reducible apply xcallIs); exact rfl; exact rfl; (first | exact c_ExpandShareI _ _ _ (by omega) | exact c_ExpandShareS _ _ _ (by omega) | exact c_PackRequest _ (by omega)); exact rfl) | ((with_reducible apply xcallSm); exact rfl; exact rfl; exact c_DrawExpandShare cs hl; rintro _ ⟨xs, room, d, rfl, hx⟩) | simp -implicitDefEqProofs only [go_sem, Int.reduceEq, Int.reduceLT, Int.reduceLE, Nat.reduceAdd, Nat.reduceSub, Nat.reduceMul, Nat.reduceEqDiff, Nat.reduceLeDiff, Nat.reducePow, ↓reduceIte, reduceCtorEq])) | ((with_reducible apply xaw); (first | ((with_reducible apply xstepS); refine AW.step tok rfl ?_) | ((with_reducible apply xstep); refine AW.region tok rfl ?_) | with_reducible (first | refine AW.seq ?_ | refine AW.block ?_ | refine AW.skip ?_ | refine AW.ret ?_ | refine AW.exit ?_) | ((with_reducible apply xcond); exact rfl))) | with_reducible (first | refine xthen ?_ | refine xthen_r ?_ | refine xthen_e ?_ | refine xblock ?_ | refine xblock_r ?_ | refine xblock_e ?_ | refine xblock_n rfl ?_ | refine xround_r ?_ | refine xround_e ?_) | (with_reducible intro hc; (try simp only [decide_eq_true_eq, decide_eq_false_iff_not, Bool.not_true, Bool.not_false, Bool.not_eq_true', Bool.not_eq_false', ne_eq, not_true, reduceCtorEq] at hc); (try (exfalso; omega))) | with_reducible (first | exact trivial | refine And.intro ?_ ?_ | exact rfl | exact Nat.le_refl _) | exact Eq.refl true | exact (rfl : (_ : List Nat) = _) | exact Nat.le_of_ble_eq_true rfl | (refine inR_i64.mpr ?_; first | omega | (simp only [List.length_map]; omega)) | omega | (have hk := expShare_ok (by assumption); have b := reqs_bd (packsOk_iff hk.1).2; have b2 := (packsOk_iff hk.1).1; rw [packRequest_ok hk.1]; refine inR_i64.mpr ?_; omega))
  · (refine xfinIs (by first | exact .inl rfl | exact .inr rfl) rfl (by repeat' (first | exact trivial | exact rfl | refine And.intro ?_ ?_)) rfl ?_ rfl; first | with_reducible exact rfl | (simp -implicitDefEqProofs only [go_sem, Int.reduceEq, Int.reduceLT, Int.reduceLE, Nat.reduceAdd, Nat.reduceSub, Nat.reduceMul, Nat.reduceEqDiff, Nat.reduceLeDiff, Nat.reducePow, ↓reduceIte, reduceCtorEq] <;> (first | rfl | omega | exact decide_eq_decide.2 (by omega) | exact decide_eq_false (by omega) | exact decide_eq_true (by omega) | (symm; first | exact decide_eq_false (by omega) | exact decide_eq_true (by omega)) | (rw [Bool.eq_iff_iff]; simp only [Bool.not_eq_true', Bool.not_eq_false', Bool.and_eq_true, Bool.or_eq_true, decide_eq_true_eq, decide_eq_false_iff_not, reduceCtorEq, true_iff, iff_true, false_iff, iff_false]; omega))))
  · (refine xfinIs (by first | exact .inl rfl | exact .inr rfl) rfl (by repeat' (first | exact trivial | exact rfl | refine And.intro ?_ ?_)) rfl ?_ rfl; first | with_reducible exact rfl | (simp -implicitDefEqProofs only [go_sem, Int.reduceEq, Int.reduceLT, Int.reduceLE, Nat.reduceAdd, Nat.reduceSub, Nat.reduceMul, Nat.reduceEqDiff, Nat.reduceLeDiff, Nat.reducePow, ↓reduceIte, reduceCtorEq, decide_true] <;> (first | rfl | omega | exact decide_eq_decide.2 (by omega) | exact decide_eq_false (by omega) | exact decide_eq_true (by omega) | (symm; first | exact decide_eq_false (by omega) | exact decide_eq_true (by omega)) | (rw [Bool.eq_iff_iff]; simp only [Bool.not_eq_true', Bool.not_eq_false', Bool.and_eq_true, Bool.or_eq_true, decide_eq_true_eq, decide_eq_false_iff_not, reduceCtorEq, true_iff, iff_true, false_iff, iff_false]; omega))))
  all_goals
    rename_i hk hd
    subst hd
    have hk2 := expShare_ok hk
    have e := packRequest_ok hk2.1
    simp only [reqD, if_true, Bool.false_eq_true, if_false] at hk2
    rw [e] at hc
    (refine xfinIs (by first | exact .inl rfl | exact .inr rfl) rfl (by repeat' (first | exact trivial | exact rfl | refine And.intro ?_ ?_)) rfl ?_ rfl; first | with_reducible exact rfl | (simp -implicitDefEqProofs only [go_sem, Int.reduceEq, Int.reduceLT, Int.reduceLE, Nat.reduceAdd, Nat.reduceSub, Nat.reduceMul, Nat.reduceEqDiff, Nat.reduceLeDiff, Nat.reducePow, ↓reduceIte, reduceCtorEq, e] <;> (first | rfl | omega | exact decide_eq_decide.2 (by omega) | exact decide_eq_false (by omega) | exact decide_eq_true (by omega) | (symm; first | exact decide_eq_false (by omega) | exact decide_eq_true (by omega)) | (rw [Bool.eq_iff_iff]; simp only [Bool.not_eq_true', Bool.not_eq_false', Bool.and_eq_true, Bool.or_eq_true, decide_eq_true_eq, decide_eq_false_iff_not, reduceCtorEq, true_iff, iff_true, false_iff, iff_false]; omega))))
end Go.Proofs.Ytiajmkppilmjdaa
