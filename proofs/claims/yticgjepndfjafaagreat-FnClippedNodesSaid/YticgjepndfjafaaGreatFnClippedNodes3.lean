/- Contracts of the functions and the plain law behind them, as far as FnClippedNodes needs them; joined out of the texts G20 G21 G23 G24 G25 T10 T11 T12 T8 T13 T30 T14 R17 T15 G31 T16. -/
import Derived.Deep.Slices
import Derived.Deep.Fields
import Derived.ChangeSame
import Derived.Below
import Derived.ProofKit
import Derived.Test.YticgjepndfjafaaGreatFnClippedNodes2
set_option linter.unusedSimpArgs false
set_option linter.unusedVariables false
namespace Go.Proofs.YticgjepndfjafaaGreat
open Go.Fw
attribute [local irreducible] Go.Fw.aops Go.Fw.arun

set_option maxHeartbeats 4000000 in
theorem c_shrunk (ls : List Line) (out : List Int) (n0 : Int) (h : LOk ls) (ho : SInv ls out) (hn0 : 0 ≤ n0 ∧ n0 ≤ 2^27) : ACon Tryz.prog 127 [.d (.lst (ls.map encLine)), .d (.lst (out.map encN)), .d (.int .i64 n0)] [] (ONums (shrinkTo ls out n0 n0.toNat).1) := by
  have hlo := h.lo; have hhi := h.hi
  have hol := ho.len
  have htk : ∀ xs : List Int, xs.length = ls.length → List.take ls.length (xs.map encN) = xs.map encN := fun xs hx => List.take_of_length_le (by simp [hx])
  have hS := shr_of h ho hn0.1
  have hT0 : shrinkTo ls out n0 0 = (out, n0) := rfl
  obtain ⟨T, hT⟩ : ∃ T, shrinkTo ls out n0 = T := ⟨_, rfl⟩
  rw [hT] at hS hT0 ⊢
  have hsz : (T n0.toNat).1 = (T n0.toNat).1 := rfl
  refine ACon.introW tok (nt := 86) Tryz.func127 rfl rfl rfl (by kernel_rfl) rfl ?_
  repeat' (first | ((with_reducible apply xsim); (first | ((with_reducible apply xo); exact rfl) | with_reducible apply xend | ((with_reducible apply xbuild); exact rfl; exact rfl; exact rfl; exact rfl; exact rfl; simp only [backV, backVs, backVs_mapd, backId, backO, List.map_cons, List.map_nil, List.getElem?_nil, List.length_cons, List.length_nil, Nat.reduceAdd, Nat.reduceSub, List.cons_append, List.nil_append, List.append_nil]) | simp -implicitDefEqProofs only [go_sem, Int.reduceEq, Int.reduceLT, Int.reduceLE, Nat.reduceAdd, Nat.reduceSub, Nat.reduceMul, Nat.reduceEqDiff, Nat.reduceLeDiff, Nat.reducePow, ↓reduceIte, reduceCtorEq, List.length_map])) | ((with_reducible apply xaw); (first | ((with_reducible apply xstepS); refine AW.step tok rfl ?_) | with_reducible (first | refine AW.seq ?_ | refine AW.block ?_))) | with_reducible (first | exact trivial | refine And.intro ?_ ?_) | omega)
  refine AW.loop (S := fun r : Nat => ⟨[(0, .d (.lst (ls.map encLine))), (2, .d (.int .i64 (T r).2)), (7, .msl 0 1 0 ls.length)], [.arr 1 ((T r).1.map encN)], 86, 0⟩)
    (Pre := fun r => (T r).2 + r ≤ n0) (μ := fun r => (T r).2.toNat) 0 (by rw [hT0]; simp) ?_ ?_
  · (refine xwk (π := [1]) (by decide) rfl ?_ ?_; (first | simp -implicitDefEqProofs only [go_sem, Int.reduceEq, Int.reduceLT, Int.reduceLE, Nat.reduceAdd, Nat.reduceSub, Nat.reduceMul, Nat.reduceEqDiff, Nat.reduceLeDiff, Nat.reducePow, ↓reduceIte, reduceCtorEq, hT0, hol]); repeat' (first | exact renE_n | ((with_reducible apply renE_c); exact rfl; focus (first | (simp -implicitDefEqProofs only [go_sem, Int.reduceEq, Int.reduceLT, Int.reduceLE, Nat.reduceAdd, Nat.reduceSub, Nat.reduceMul, Nat.reduceEqDiff, Nat.reduceLeDiff, Nat.reducePow, ↓reduceIte, reduceCtorEq, hT0, hol]; done)))))
  intro r hpre
  obtain ⟨i1, i2, i3⟩ := hS.inv r
  have hsu := hS.succ r
  have hrun := hS.run r hpre
  have hdn := hS.done r hpre
  by_cases hpos : ¬ 0 < (T r).2
  · have hfin := hdn (fun hc => hpos hc.1)
    have hsz := congrArg Prod.fst hfin; (try dsimp only at hsz)
    repeat' (first | ((with_reducible apply xsim); (first | ((with_reducible apply xo); exact rfl) | with_reducible apply xend)) | ((with_reducible apply xaw); (first | ((with_reducible apply xstepS); refine AW.step tok rfl ?_) | with_reducible (first | refine AW.seq ?_ | refine AW.ret ?_ | refine AW.exit ?_) | ((with_reducible apply xcond); exact rfl))) | with_reducible (first | refine xthen ?_ | refine xthen_e ?_ | refine xblock_e ?_ | refine xround_e ?_) | (with_reducible intro hc; (try simp only [decide_eq_true_eq, decide_eq_false_iff_not, Bool.not_true, Bool.not_false, Bool.not_eq_true', Bool.not_eq_false', ne_eq, not_true, reduceCtorEq] at hc); (try (exfalso; omega))) | with_reducible (first | exact trivial | refine And.intro ?_ ?_ | exact rfl))
    (refine xfinOwn [0] (by first | exact .inl rfl | exact .inr rfl) rfl (by repeat' (first | exact trivial | exact rfl | refine And.intro ?_ ?_)) (by decide) rfl ?_ ?_ <;> simp -implicitDefEqProofs only [go_sem, Int.reduceEq, Int.reduceLT, Int.reduceLE, Nat.reduceAdd, Nat.reduceSub, Nat.reduceMul, Nat.reduceEqDiff, Nat.reduceLeDiff, Nat.reducePow, ↓reduceIte, reduceCtorEq, hsz, i1.len])
  replace hpos : 0 < (T r).2 := by omega
  generalize hTr : T r = st at *
  obtain ⟨ys, n⟩ := st
  dsimp only at i1 i2 i3 hpre hsu hrun hdn hpos ⊢
  have hyl := i1.len
  have hnl := nowW_len hyl
  have hno := nowW_ok h hyl
  have hnb := hno.nums.sum _ (Nat.le_refl _)
  rw [List.take_length, hnl] at hnb
  have csn := c_total (nowW ls ys) hno.nums
  have hsb := sum50 i1.toROk hhi
  repeat' (first | ((with_reducible apply xsim); (first | ((with_reducible apply xlenM); exact rfl; exact rfl) | ((with_reducible apply xo); exact rfl) | with_reducible apply xend | simp -implicitDefEqProofs only [go_sem, Int.reduceEq, Int.reduceLT, Int.reduceLE, Nat.reduceAdd, Nat.reduceSub, Nat.reduceMul, Nat.reduceEqDiff, Nat.reduceLeDiff, Nat.reducePow, ↓reduceIte, reduceCtorEq, List.length_map, hyl, List.length_replicate])) | ((with_reducible apply xaw); (first | ((with_reducible apply xstepS); refine AW.step tok rfl ?_) | with_reducible (first | refine AW.seq ?_ | refine AW.block ?_ | refine AW.skip ?_) | ((with_reducible apply xcond); exact rfl))) | with_reducible refine xthen ?_ | (with_reducible intro hc; (try simp only [decide_eq_true_eq, decide_eq_false_iff_not, Bool.not_true, Bool.not_false, Bool.not_eq_true', Bool.not_eq_false', ne_eq, not_true, reduceCtorEq, List.length_map, hyl, List.length_replicate] at hc); (try (exfalso; omega))) | with_reducible (first | exact trivial | refine And.intro ?_ ?_ | exact rfl) | omega)
  refine AW.loop (S := fun k : Nat => ⟨[(0, .d (.lst (ls.map encLine))), (2, .d (.int .i64 n)), (7, .msl 0 1 0 ls.length), (8, .msl 1 1 0 ls.length), (9, .d (.int .i64 k))], [.arr 1 (ys.map encN), .arr 1 (fillRows encN zN (nowW ls ys) k)], 86, 0⟩)
    (Pre := fun k => k ≤ ls.length) (μ := fun k => ls.length - k) 0 (Nat.zero_le _) ?_ ?_
  · (refine xwk (π := [0, 1]) (by decide) rfl ?_ ?_; (first | simp -implicitDefEqProofs only [go_sem, Int.reduceEq, Int.reduceLT, Int.reduceLE, Nat.reduceAdd, Nat.reduceSub, Nat.reduceMul, Nat.reduceEqDiff, Nat.reduceLeDiff, Nat.reducePow, ↓reduceIte, reduceCtorEq, fillRows_zero, zN, hnl]); repeat' (first | exact renE_n | ((with_reducible apply renE_c); exact rfl; focus (first | (simp -implicitDefEqProofs only [go_sem, Int.reduceEq, Int.reduceLT, Int.reduceLE, Nat.reduceAdd, Nat.reduceSub, Nat.reduceMul, Nat.reduceEqDiff, Nat.reduceLeDiff, Nat.reducePow, ↓reduceIte, reduceCtorEq, fillRows_zero, zN, hnl]; done)))))
  intro k hk
  by_cases hkl : k < ls.length
  · have hrow := at_map (f := encLine) hkl
    have hry := at_map (f := encN) (xs := ys) (k := k) (by omega)
    have hz := fillRows_at (enc := encN) (z := zN) (show k < (nowW ls ys).length by omega)
    have hset := fillRows_set (enc := encN) (z := zN) (show k < (nowW ls ys).length by omega)
    have hskip := fill_skip hyl hkl
    rw [nowW_at hkl (by omega)] at hset
    by_cases hc : ls[k].min < ys[k]
    · rw [if_pos hc] at hset
      simp only [encN] at hset
      repeat' (first | ((with_reducible apply xsim); (first | ((with_reducible apply xlenM); exact rfl; exact rfl) | ((with_reducible apply xo); exact rfl) | with_reducible apply xend | ((with_reducible apply xidxL); exact rfl; exact rfl; exact rfl; (first | exact hrow | exact hry | exact hz); omega; first | exact rfl | simp only [hsz]) | ((with_reducible apply xidxM); exact rfl; exact rfl; exact rfl; omega; omega; exact rfl) | ((with_reducible apply xldA); exact rfl; exact rfl; exact rfl; (first | exact hrow | exact hry | exact hz); exact rfl) | ((with_reducible apply xstA); exact rfl; exact rfl; exact rfl; exact rfl; (first | exact hrow | exact hry | exact hz); exact rfl; exact rfl; exact rfl; exact rfl; (try simp only [List.set_cons_zero, List.set_cons_succ, List.length_map])))) | ((with_reducible apply xaw); (first | ((with_reducible apply xstepS); refine AW.step tok rfl ?_) | ((with_reducible apply xstep); refine AW.region tok rfl ?_) | with_reducible (first | refine AW.seq ?_ | refine AW.block ?_ | refine AW.skip ?_) | ((with_reducible apply xcond); exact rfl) | ((with_reducible apply xdraw (id := 7)); refine AW.draw (id := 7) (.q 0 (.q 1 (.q 2 (.q 3 (.q 4 (.q 5 (.q 6 (.q 7 (.q 8 (.q 9 (.fin))))))))))) tok (by kernel_rfl) rfl (by kernel_rfl) ?_))) | ((with_reducible apply xarun); (first | ((with_reducible apply xrun_q); exact rfl; exact rfl; exact rfl) | with_reducible apply xrun_f)) | with_reducible (first | refine xthen ?_ | refine xblock ?_) | (with_reducible intro hc; (try simp only [decide_eq_true_eq, decide_eq_false_iff_not, Bool.not_true, Bool.not_false, Bool.not_eq_true', Bool.not_eq_false', ne_eq, not_true, reduceCtorEq, List.length_map] at hc); (try (exfalso; omega))) | with_reducible (first | exact trivial | refine And.intro ?_ ?_ | exact rfl) | (refine inR_i64.mpr ?_; first | omega | (simp only [List.length_map, List.length_map]; omega)))
      all_goals refine round_end (k+1) hkl (by omega) (by (refine xwk (π := [0, 1]) (by decide) rfl ?_ ?_; (first | simp -implicitDefEqProofs only [go_sem, Int.reduceEq, Int.reduceLT, Int.reduceLE, Nat.reduceAdd, Nat.reduceSub, Nat.reduceMul, Nat.reduceEqDiff, Nat.reduceLeDiff, Nat.reducePow, ↓reduceIte, reduceCtorEq, hset]); repeat' (first | exact renE_n | ((with_reducible apply renE_c); exact rfl; focus (first | (simp -implicitDefEqProofs only [go_sem, Int.reduceEq, Int.reduceLT, Int.reduceLE, Nat.reduceAdd, Nat.reduceSub, Nat.reduceMul, Nat.reduceEqDiff, Nat.reduceLeDiff, Nat.reducePow, ↓reduceIte, reduceCtorEq, hset]; done))))))
    · have hskip := hskip hc
      repeat' (first | ((with_reducible apply xsim); (first | ((with_reducible apply xlenM); exact rfl; exact rfl) | ((with_reducible apply xo); exact rfl) | with_reducible apply xend | ((with_reducible apply xidxL); exact rfl; exact rfl; exact rfl; (first | exact hrow | exact hry | exact hz); omega; first | exact rfl | simp only [hsz]) | ((with_reducible apply xidxM); exact rfl; exact rfl; exact rfl; omega; omega; exact rfl) | ((with_reducible apply xldA); exact rfl; exact rfl; exact rfl; (first | exact hrow | exact hry | exact hz); exact rfl))) | ((with_reducible apply xaw); (first | ((with_reducible apply xstepS); refine AW.step tok rfl ?_) | ((with_reducible apply xstep); refine AW.region tok rfl ?_) | with_reducible (first | refine AW.seq ?_ | refine AW.block ?_ | refine AW.skip ?_) | ((with_reducible apply xcond); exact rfl) | ((with_reducible apply xdraw (id := 7)); refine AW.draw (id := 7) (.q 0 (.q 1 (.q 2 (.q 3 (.q 4 (.q 5 (.q 6 (.q 7 (.q 8 (.q 9 (.fin))))))))))) tok (by kernel_rfl) rfl (by kernel_rfl) ?_))) | ((with_reducible apply xarun); (first | ((with_reducible apply xrun_q); exact rfl; exact rfl; exact rfl) | with_reducible apply xrun_f)) | with_reducible (first | refine xthen ?_ | refine xblock ?_) | (with_reducible intro hc; (try simp only [decide_eq_true_eq, decide_eq_false_iff_not, Bool.not_true, Bool.not_false, Bool.not_eq_true', Bool.not_eq_false', ne_eq, not_true, reduceCtorEq, List.length_map] at hc); (try (exfalso; omega))) | with_reducible (first | exact trivial | refine And.intro ?_ ?_ | exact rfl) | (refine inR_i64.mpr ?_; first | omega | (simp only [List.length_map, List.length_map]; omega)))
      all_goals refine round_end (k+1) hkl (by omega) (by (refine xwk (π := [0, 1]) (by decide) rfl ?_ ?_; (first | simp -implicitDefEqProofs only [go_sem, Int.reduceEq, Int.reduceLT, Int.reduceLE, Nat.reduceAdd, Nat.reduceSub, Nat.reduceMul, Nat.reduceEqDiff, Nat.reduceLeDiff, Nat.reducePow, ↓reduceIte, reduceCtorEq, hskip]); repeat' (first | exact renE_n | ((with_reducible apply renE_c); exact rfl; focus (first | (simp -implicitDefEqProofs only [go_sem, Int.reduceEq, Int.reduceLT, Int.reduceLE, Nat.reduceAdd, Nat.reduceSub, Nat.reduceMul, Nat.reduceEqDiff, Nat.reduceLeDiff, Nat.reducePow, ↓reduceIte, reduceCtorEq, hskip]; done))))))
  have hk' : k = ls.length := by omega
  subst hk'
  have hall := fillRows_all (enc := encN) (z := zN) (xs := nowW ls ys)
  rw [hnl] at hall
  rw [hall]
  have htn := htk (nowW ls ys) hnl
  by_cases h0 : sumI (nowW ls ys) = 0
  · have hfin := hdn (fun hc => hc.2 h0)
    have hsz := congrArg Prod.fst hfin; (try dsimp only at hsz)
    repeat' (first | ((with_reducible apply xsim); (first | ((with_reducible apply xlenM); exact rfl; exact rfl) | ((with_reducible apply xo); exact rfl) | with_reducible apply xend | ((with_reducible apply xcallLend [1]); exact rfl; exact csn; (focus (first | exact rfl | (simp -implicitDefEqProofs only [go_sem, ↓reduceIte, Nat.reduceEqDiff, List.length_map, hnl, htn]; done))); exact rfl; exact rfl))) | ((with_reducible apply xaw); (first | ((with_reducible apply xstepS); refine AW.step tok rfl ?_) | with_reducible (first | refine AW.seq ?_ | refine AW.ret ?_ | refine AW.exit ?_) | ((with_reducible apply xcond); exact rfl))) | with_reducible (first | refine xthen ?_ | refine xthen_r ?_ | refine xthen_e ?_ | refine xblock_r ?_ | refine xblock_e ?_ | refine xround_r ?_ | refine xround_e ?_) | (with_reducible intro hc; (try simp only [decide_eq_true_eq, decide_eq_false_iff_not, Bool.not_true, Bool.not_false, Bool.not_eq_true', Bool.not_eq_false', ne_eq, not_true, reduceCtorEq, List.length_map, hnl, htn] at hc); (try (exfalso; omega))) | with_reducible (first | exact trivial | refine And.intro ?_ ?_ | exact rfl))
    all_goals (refine xfinOwn [0] (by first | exact .inl rfl | exact .inr rfl) rfl (by repeat' (first | exact trivial | exact rfl | refine And.intro ?_ ?_)) (by decide) rfl ?_ ?_ <;> simp -implicitDefEqProofs only [go_sem, Int.reduceEq, Int.reduceLT, Int.reduceLE, Nat.reduceAdd, Nat.reduceSub, Nat.reduceMul, Nat.reduceEqDiff, Nat.reduceLeDiff, Nat.reducePow, ↓reduceIte, reduceCtorEq, hsz, hyl])
  have csp := c_spreadS n (nowW ls ys) (by omega) hno
  have hpl : (spread n (nowW ls ys)).length = ls.length := by rw [spread_len, hnl]
  have hpb := spread_bd hno (n := n) (by omega)
  have htl := tks_len (n := n) hyl
  have htb : ∀ i (h1 : i < (tks ls ys n).length) (h3 : i < ys.length) (h4 : i < ls.length), 0 ≤ (tks ls ys n)[i] ∧ (tks ls ys n)[i] ≤ ys[i] - ls[i].min := fun i h1 h3 h4 => tks_bd h i1 (n := n) (by omega) (i := i) h4
  have hta : ∀ i (h1 : i < (tks ls ys n).length) (h2 : i < (spread n (nowW ls ys)).length) (h3 : i < ys.length) (h4 : i < ls.length), (tks ls ys n)[i] = min (spread n (nowW ls ys))[i] (ys[i] - ls[i].min) := fun i h1 h2 h3 h4 => tks_at (n := n) hyl (i := i) h4
  have hll := less_len (n := n) hyl
  have hla : ∀ i (h1 : i < (less ls ys n).length) (h2 : i < (tks ls ys n).length) (h3 : i < ys.length), (less ls ys n)[i] = ys[i] - (tks ls ys n)[i] := fun i h1 h2 h3 => less_at (n := n) hyl (i := i) (by omega)
  have htnn := tks_nonneg h i1 (n := n) (by omega)
  have hts := tks_sum h i1 (n := n) (by omega)
  have hsu := hsu hpos h0
  have hrun := hrun hpos h0
  generalize spread n (nowW ls ys) = ps at *
  generalize tks ls ys n = tk at *
  generalize less ls ys n = zs at *
  repeat' (first | ((with_reducible apply xsim); (first | ((with_reducible apply xlenM); exact rfl; exact rfl) | ((with_reducible apply xo); exact rfl) | with_reducible apply xend | ((with_reducible apply xcallLend [1]); exact rfl; exact csn; (focus (first | exact rfl | (simp -implicitDefEqProofs only [go_sem, ↓reduceIte, Nat.reduceEqDiff, List.length_map, hnl, htn]; done))); exact rfl; exact rfl) | ((with_reducible apply xcallOwnLend [1]); exact rfl; exact csp; (focus (first | exact rfl | (simp -implicitDefEqProofs only [go_sem, ↓reduceIte, Nat.reduceEqDiff, List.length_map, hnl, htn]; done))); (focus (first | exact ⟨rfl, flat1 (fun _ => rfl)⟩ | (simp -implicitDefEqProofs only [go_sem, Int.reduceEq, Int.reduceLT, Int.reduceLE, Nat.reduceAdd, Nat.reduceSub, Nat.reduceMul, Nat.reduceEqDiff, Nat.reduceLeDiff, Nat.reducePow, ↓reduceIte, reduceCtorEq]; done))); simp only [backV, backVs, backVs_mapd, backId, backO, List.map_cons, List.map_nil, List.getElem?_nil, List.length_cons, List.length_nil, Nat.reduceAdd, Nat.reduceSub, List.cons_append, List.nil_append, List.append_nil]))) | ((with_reducible apply xaw); (first | ((with_reducible apply xstepS); refine AW.step tok rfl ?_) | with_reducible (first | refine AW.seq ?_ | refine AW.block ?_ | refine AW.skip ?_ | refine AW.exit ?_) | ((with_reducible apply xcond); exact rfl))) | with_reducible (first | refine xthen ?_ | refine xthen_e ?_ | refine xblock_e ?_ | refine xround_e ?_) | (with_reducible intro hc; (try simp only [decide_eq_true_eq, decide_eq_false_iff_not, Bool.not_true, Bool.not_false, Bool.not_eq_true', Bool.not_eq_false', ne_eq, not_true, reduceCtorEq, List.length_map, hnl, htn] at hc); (try (exfalso; omega))) | with_reducible (first | exact trivial | refine And.intro ?_ ?_ | exact rfl))
  refine AW.loop (S := fun i : Nat => ⟨[(0, .d (.lst (ls.map encLine))), (2, .d (.int .i64 (n - sumI (tk.take i)))), (7, .msl 0 1 0 ls.length), (10, .msl 1 1 0 ls.length), (11, .d (.int .i64 i))], [.arr 1 ((mix zs ys i).map encN), .arr 1 (ps.map encN)], 86, 0⟩)
    (Pre := fun i => i ≤ ls.length) (μ := fun i => ls.length - i) 0 (Nat.zero_le _) ?_ ?_
  · (refine xwk (π := [0, 2]) (by decide) rfl ?_ ?_; (first | simp -implicitDefEqProofs only [go_sem, Int.reduceEq, Int.reduceLT, Int.reduceLE, Nat.reduceAdd, Nat.reduceSub, Nat.reduceMul, Nat.reduceEqDiff, Nat.reduceLeDiff, Nat.reducePow, ↓reduceIte, reduceCtorEq, mix_zero, List.take_zero, sumI, Int.sub_zero, hpl]); repeat' (first | exact renE_n | ((with_reducible apply renE_c); exact rfl; focus (first | (simp -implicitDefEqProofs only [go_sem, Int.reduceEq, Int.reduceLT, Int.reduceLE, Nat.reduceAdd, Nat.reduceSub, Nat.reduceMul, Nat.reduceEqDiff, Nat.reduceLeDiff, Nat.reducePow, ↓reduceIte, reduceCtorEq, mix_zero, List.take_zero, sumI, Int.sub_zero, hpl]; done)))))
  intro i hi
  by_cases hil : i < ls.length
  · have hrow := at_map (f := encLine) hil
    have hrp := at_map (f := encN) (xs := ps) (k := i) (by omega)
    have hmx := mixmap_at (f := encN) (ys := zs) (zs := ys) (k := i) (by omega) (by omega)
    have hset := mixmap_set (f := encN) (ys := zs) (zs := ys) (k := i) (by omega) (by omega)
    have a1 := hta i (by omega) (by omega) (by omega) hil
    have a2 := hla i (by omega) (by omega) (by omega)
    have a3 := htb i (by omega) (by omega) hil
    have a4 := sumI_take (xs := tk) (k := i) (by omega)
    have a5 := sumI_nonneg (xs := tk.take i) (fun x hx => htnn x (List.mem_of_mem_take hx))
    have a6 := sumI_nonneg (xs := tk.take (i + 1)) (fun x hx => htnn x (List.mem_of_mem_take hx))
    have a7 := take_all htnn (a := i)
    have a8 := take_all htnn (a := i + 1)
    have a9 := hpb _ (List.getElem_mem (show i < ps.length by omega))
    have b1 := i1.bd _ (List.getElem_mem (show i < ys.length by omega))
    have b2 := h.ok _ (List.getElem_mem hil)
    rw [a2, a1] at hset
    rw [a1] at a4
    simp only [encN] at hset
    repeat' (first | ((with_reducible apply xsim); (first | ((with_reducible apply xo); exact rfl) | with_reducible apply xend | ((with_reducible apply xidxL); exact rfl; exact rfl; exact rfl; (first | exact hrow | exact hrp | exact hmx); omega; first | exact rfl | simp only [hsz]) | ((with_reducible apply xidxM); exact rfl; exact rfl; exact rfl; omega; omega; exact rfl) | ((with_reducible apply xldA); exact rfl; exact rfl; exact rfl; (first | exact hrow | exact hrp | exact hmx); exact rfl) | ((with_reducible apply xstA); exact rfl; exact rfl; exact rfl; exact rfl; (first | exact hrow | exact hrp | exact hmx); exact rfl; exact rfl; exact rfl; exact rfl; (try simp only [List.set_cons_zero, List.set_cons_succ, List.length_map])))) | ((with_reducible apply xaw); (first | ((with_reducible apply xstepS); refine AW.step tok rfl ?_) | ((with_reducible apply xstep); refine AW.region tok rfl ?_) | with_reducible (first | refine AW.seq ?_ | refine AW.block ?_ | refine AW.skip ?_) | ((with_reducible apply xcond); exact rfl) | ((with_reducible apply xdraw (id := 15)); refine AW.draw (id := 15) (.q 0 (.q 1 (.q 2 (.q 3 (.q 4 (.q 5 (.q 6 (.q 7 (.q 8 (.q 9 (.q 10 (.q 11 (.q 12 (.q 13 (.q 14 (.q 15 (.fin))))))))))))))))) tok (by kernel_rfl) rfl (by kernel_rfl) ?_))) | ((with_reducible apply xarun); (first | ((with_reducible apply xrun_q); exact rfl; exact rfl; exact rfl) | with_reducible apply xrun_f)) | with_reducible (first | refine xthen ?_ | refine xblock ?_) | (with_reducible intro hc; (try simp only [decide_eq_true_eq, decide_eq_false_iff_not, Bool.not_true, Bool.not_false, Bool.not_eq_true', Bool.not_eq_false', ne_eq, not_true, reduceCtorEq, List.length_map] at hc); (try (exfalso; omega))) | with_reducible (first | exact trivial | refine And.intro ?_ ?_ | exact rfl) | exact Eq.refl true | (refine inR_i64.mpr ?_; first | omega | (simp only [List.length_map, List.length_map]; omega)))
    all_goals refine round_end (i+1) hil (by omega) (by (refine xwk (π := [0, 1]) (by decide) rfl ?_ ?_; (first | simp -implicitDefEqProofs only [go_sem, Int.reduceEq, Int.reduceLT, Int.reduceLE, Nat.reduceAdd, Nat.reduceSub, Nat.reduceMul, Nat.reduceEqDiff, Nat.reduceLeDiff, Nat.reducePow, ↓reduceIte, reduceCtorEq, hset, a4, Int.sub_sub]); repeat' (first | exact renE_n | ((with_reducible apply renE_c); exact rfl; focus (first | (simp -implicitDefEqProofs only [go_sem, Int.reduceEq, Int.reduceLT, Int.reduceLE, Nat.reduceAdd, Nat.reduceSub, Nat.reduceMul, Nat.reduceEqDiff, Nat.reduceLeDiff, Nat.reducePow, ↓reduceIte, reduceCtorEq, hset, a4, Int.sub_sub]; done))))))
  have hi' : i = ls.length := by omega
  subst hi'
  have hall2 := mix_all (ys := zs) (zs := ys) (by omega)
  rw [hll] at hall2
  have htk2 : tk.take ls.length = tk := by rw [← htl, List.take_length]
  repeat' (first | ((with_reducible apply xsim); (first | ((with_reducible apply xo); exact rfl) | with_reducible apply xend)) | ((with_reducible apply xaw); (first | ((with_reducible apply xstepS); refine AW.step tok rfl ?_) | with_reducible (first | refine AW.seq ?_ | refine AW.exit ?_) | ((with_reducible apply xcond); exact rfl))) | with_reducible (first | refine xthen_e ?_ | refine xblock ?_ | refine xblock_e ?_ | refine xround_e ?_) | (with_reducible intro hc; (try simp only [decide_eq_true_eq, decide_eq_false_iff_not, Bool.not_true, Bool.not_false, Bool.not_eq_true', Bool.not_eq_false', ne_eq, not_true, reduceCtorEq] at hc); (try (exfalso; omega))) | with_reducible (first | exact trivial | refine And.intro ?_ ?_ | exact rfl) | exact Eq.refl true)
  refine round_end (r+1) hrun.1 (by rw [hTr]; dsimp only; omega) (by (refine xwk (π := [0]) (by decide) rfl ?_ ?_; (first | simp -implicitDefEqProofs only [go_sem, Int.reduceEq, Int.reduceLT, Int.reduceLE, Nat.reduceAdd, Nat.reduceSub, Nat.reduceMul, Nat.reduceEqDiff, Nat.reduceLeDiff, Nat.reducePow, ↓reduceIte, reduceCtorEq, hsu, hall2, htk2]); repeat' (first | exact renE_n | ((with_reducible apply renE_c); exact rfl; focus (first | (simp -implicitDefEqProofs only [go_sem, Int.reduceEq, Int.reduceLT, Int.reduceLE, Nat.reduceAdd, Nat.reduceSub, Nat.reduceMul, Nat.reduceEqDiff, Nat.reduceLeDiff, Nat.reducePow, ↓reduceIte, reduceCtorEq, hsu, hall2, htk2]; done))))))

theorem c_sized (ls : List Line) (out : List Int) (room : Int) (h : LOk ls) (ho : SInv ls out) (hr : 0 ≤ room ∧ room ≤ 16384) : ACon Tryz.prog 100 [.d (.lst (ls.map encLine)), .d (.lst (out.map encN)), .d (.int .i64 room)] [] (ONums (sizes ls out room)) := by
  have hlo := h.lo; have hhi := h.hi
  have hol := ho.len
  have cw := c_weightsS ls hhi
  have cs := c_total out (ho.toROk.nums hhi)
  have hb := sum50 ho.toROk hhi
  have hall := h.all
  have csw := c_total (weights ls) hall.nums
  have hws := hall.sum
  have hwn := hall.nums.sum _ (Nat.le_refl _)
  have hwl := weights_len ls
  rw [List.take_length, hwl] at hwn
  by_cases h1 : room - sumI out < 0
  · have hsz : sizes ls out room = (shrinkTo ls out (sumI out - room) (sumI out - room).toNat).1 := by rw [sizes, if_pos h1]
    have csh := c_shrunk ls out (sumI out - room) h ho (by omega)
    have hin := (shrink_inv h ho (show 0 ≤ sumI out - room by omega) (sumI out - room).toNat).1.len
    rw [← hsz] at csh hin
    rw [show sumI out - room = 0 - (room - sumI out) by omega] at csh
    refine ACon.introW tok (nt := 53) Tryz.func100 rfl rfl rfl (by kernel_rfl) rfl ?_
    repeat' (first | ((with_reducible apply xsim); (first | ((with_reducible apply xo); exact rfl) | with_reducible apply xend | ((with_reducible apply xcallIs); exact rfl; exact rfl; exact cs; exact rfl) | ((with_reducible apply xcallOwn); exact rfl; exact rfl; exact csh; simp only [backV, backVs, backVs_mapd, backId, backO, List.map_cons, List.map_nil, List.getElem?_nil, List.length_cons, List.length_nil, Nat.reduceAdd, Nat.reduceSub, List.cons_append, List.nil_append, List.append_nil]))) | ((with_reducible apply xaw); (first | ((with_reducible apply xstepS); refine AW.step tok rfl ?_) | with_reducible (first | refine AW.seq ?_ | refine AW.ret ?_) | ((with_reducible apply xcond); exact rfl))) | with_reducible refine xthen_r ?_ | (with_reducible intro hc; (try simp only [decide_eq_true_eq, decide_eq_false_iff_not, Bool.not_true, Bool.not_false, Bool.not_eq_true', Bool.not_eq_false', ne_eq, not_true, reduceCtorEq] at hc); (try (exfalso; omega))) | with_reducible (first | exact trivial | refine And.intro ?_ ?_ | exact rfl) | (refine inR_i64.mpr ?_; first | omega | (simp only [List.length_map]; omega)))
    (refine xfinOwn [0] (by first | exact .inl rfl | exact .inr rfl) rfl (by repeat' (first | exact trivial | exact rfl | refine And.intro ?_ ?_)) (by decide) rfl ?_ ?_ <;> simp -implicitDefEqProofs only [go_sem, Int.reduceEq, Int.reduceLT, Int.reduceLE, Nat.reduceAdd, Nat.reduceSub, Nat.reduceMul, Nat.reduceEqDiff, Nat.reduceLeDiff, Nat.reducePow, ↓reduceIte, reduceCtorEq, hin])
  · by_cases h0 : sumI (weights ls) = 0
    · have hsz : sizes ls out room = out := by rw [sizes, if_neg h1, if_pos h0]
      rw [hsz]
      refine ACon.introW tok (nt := 53) Tryz.func100 rfl rfl rfl (by kernel_rfl) rfl ?_
      repeat' (first | ((with_reducible apply xsim); (first | ((with_reducible apply xo); exact rfl) | with_reducible apply xend | ((with_reducible apply xbuild); exact rfl; exact rfl; exact rfl; exact rfl; exact rfl; simp only [backV, backVs, backVs_mapd, backId, backO, List.map_cons, List.map_nil, List.getElem?_nil, List.length_cons, List.length_nil, Nat.reduceAdd, Nat.reduceSub, List.cons_append, List.nil_append, List.append_nil]) | ((with_reducible apply xcallIs); exact rfl; exact rfl; (first | exact cs | exact csw | exact cw); exact rfl) | simp -implicitDefEqProofs only [go_sem, Int.reduceEq, Int.reduceLT, Int.reduceLE, Nat.reduceAdd, Nat.reduceSub, Nat.reduceMul, Nat.reduceEqDiff, Nat.reduceLeDiff, Nat.reducePow, ↓reduceIte, reduceCtorEq, List.length_map])) | ((with_reducible apply xaw); (first | ((with_reducible apply xstepS); refine AW.step tok rfl ?_) | with_reducible (first | refine AW.seq ?_ | refine AW.skip ?_ | refine AW.ret ?_) | ((with_reducible apply xcond); exact rfl))) | with_reducible (first | refine xthen ?_ | refine xthen_r ?_) | (with_reducible intro hc; (try simp only [decide_eq_true_eq, decide_eq_false_iff_not, Bool.not_true, Bool.not_false, Bool.not_eq_true', Bool.not_eq_false', ne_eq, not_true, reduceCtorEq, List.length_map] at hc); (try (exfalso; omega))) | with_reducible (first | exact trivial | refine And.intro ?_ ?_ | exact rfl) | (refine inR_i64.mpr ?_; first | omega | (simp only [List.length_map, List.length_map]; omega)) | omega)
      (refine xfinOwn [1] (by first | exact .inl rfl | exact .inr rfl) rfl (by repeat' (first | exact trivial | exact rfl | refine And.intro ?_ ?_)) (by decide) rfl ?_ ?_ <;> simp -implicitDefEqProofs only [go_sem, Int.reduceEq, Int.reduceLT, Int.reduceLE, Nat.reduceAdd, Nat.reduceSub, Nat.reduceMul, Nat.reduceEqDiff, Nat.reduceLeDiff, Nat.reducePow, ↓reduceIte, reduceCtorEq])
    have hsd := sizes_ok h ho hr
    have hsz : sizes ls out room = putN (spread (room - sumI out) (weights ls)) 0 out.length out := by rw [sizes, if_neg h1, if_neg h0]
    have csp := c_spreadS (room - sumI out) (weights ls) (by omega) hall
    have hpl : (spread (room - sumI out) (weights ls)).length = ls.length := by rw [spread_len, hwl]
    have hpb := spread_bd hall (n := room - sumI out) (by omega)
    have hlen := hsd.len
    rw [hsz] at hlen
    rw [hsz]
    rw [hol] at hlen ⊢
    generalize spread (room - sumI out) (weights ls) = ps at *
    refine ACon.introW tok (nt := 53) Tryz.func100 rfl rfl rfl (by kernel_rfl) rfl ?_
    repeat' (first | ((with_reducible apply xsim); (first | ((with_reducible apply xo); exact rfl) | with_reducible apply xend | ((with_reducible apply xbuild); exact rfl; exact rfl; exact rfl; exact rfl; exact rfl; simp only [backV, backVs, backVs_mapd, backId, backO, List.map_cons, List.map_nil, List.getElem?_nil, List.length_cons, List.length_nil, Nat.reduceAdd, Nat.reduceSub, List.cons_append, List.nil_append, List.append_nil]) | ((with_reducible apply xcallIs); exact rfl; exact rfl; (first | exact cs | exact csw | exact cw); exact rfl) | ((with_reducible apply xcallOwn); exact rfl; exact rfl; exact csp; simp only [backV, backVs, backVs_mapd, backId, backO, List.map_cons, List.map_nil, List.getElem?_nil, List.length_cons, List.length_nil, Nat.reduceAdd, Nat.reduceSub, List.cons_append, List.nil_append, List.append_nil]) | simp -implicitDefEqProofs only [go_sem, Int.reduceEq, Int.reduceLT, Int.reduceLE, Nat.reduceAdd, Nat.reduceSub, Nat.reduceMul, Nat.reduceEqDiff, Nat.reduceLeDiff, Nat.reducePow, ↓reduceIte, reduceCtorEq, List.length_map])) | ((with_reducible apply xaw); (first | ((with_reducible apply xstepS); refine AW.step tok rfl ?_) | with_reducible (first | refine AW.seq ?_ | refine AW.block ?_ | refine AW.skip ?_) | ((with_reducible apply xcond); exact rfl))) | with_reducible refine xthen ?_ | (with_reducible intro hc; (try simp only [decide_eq_true_eq, decide_eq_false_iff_not, Bool.not_true, Bool.not_false, Bool.not_eq_true', Bool.not_eq_false', ne_eq, not_true, reduceCtorEq, List.length_map] at hc); (try (exfalso; omega))) | with_reducible (first | exact trivial | refine And.intro ?_ ?_ | exact rfl) | (refine inR_i64.mpr ?_; first | omega | (simp only [List.length_map, List.length_map]; omega)) | omega)
    refine AW.loop (S := fun i : Nat => ⟨[(8, .msl 0 1 0 ls.length), (9, .msl 1 1 0 ls.length), (10, .d (.int .i64 i))], [.arr 1 ((putN ps 0 i out).map encN), .arr 1 (ps.map encN)], 53, 0⟩)
      (Pre := fun i => i ≤ ls.length) (μ := fun i => ls.length - i) 0 (Nat.zero_le _) ?_ ?_
    · (refine xwk (π := [1, 2]) (by decide) rfl ?_ ?_; (first | simp -implicitDefEqProofs only [go_sem, Int.reduceEq, Int.reduceLT, Int.reduceLE, Nat.reduceAdd, Nat.reduceSub, Nat.reduceMul, Nat.reduceEqDiff, Nat.reduceLeDiff, Nat.reducePow, ↓reduceIte, reduceCtorEq, putN_zero, hpl, hol]); repeat' (first | exact renE_n | ((with_reducible apply renE_c); exact rfl; focus (first | (simp -implicitDefEqProofs only [go_sem, Int.reduceEq, Int.reduceLT, Int.reduceLE, Nat.reduceAdd, Nat.reduceSub, Nat.reduceMul, Nat.reduceEqDiff, Nat.reduceLeDiff, Nat.reducePow, ↓reduceIte, reduceCtorEq, putN_zero, hpl, hol]; done)))))
    intro i hi
    by_cases hil : i < ls.length
    · have hrp := at_map (f := encN) (xs := ps) (k := i) (by omega)
      have hp := hpb _ (List.getElem_mem (show i < ps.length by omega))
      have hob := ho.bd _ (List.getElem_mem (show i < out.length by omega))
      have hat := putN_at (ps := ps) (out := out) (a := 0) (k := i) (by omega)
      have hset := putN_set (ps := ps) (out := out) (a := 0) (k := i) (by omega) (by omega)
      simp only [Nat.zero_add] at hat hset
      have hz : ((putN ps 0 i out).map encN)[i]? = some [.int .i64 (out[i]'(by omega))] := by rw [List.getElem?_map, hat]; rfl
      have hset2 : ((putN ps 0 i out).map encN).set i [.int .i64 (out[i]'(by omega) + ps[i]'(by omega))] = (putN ps 0 (i + 1) out).map encN := by rw [← hset, List.map_set]; rfl
      repeat' (first | ((with_reducible apply xsim); (first | ((with_reducible apply xo); exact rfl) | with_reducible apply xend | ((with_reducible apply xidxM); exact rfl; exact rfl; exact rfl; omega; omega; exact rfl) | ((with_reducible apply xldA); exact rfl; exact rfl; exact rfl; (first | exact hrp | exact hz); exact rfl) | ((with_reducible apply xstA); exact rfl; exact rfl; exact rfl; exact rfl; (first | exact hrp | exact hz); exact rfl; exact rfl; exact rfl; exact rfl; (try simp only [List.set_cons_zero, List.set_cons_succ])))) | ((with_reducible apply xaw); (first | ((with_reducible apply xstepS); refine AW.step tok rfl ?_) | ((with_reducible apply xstep); refine AW.region tok rfl ?_) | with_reducible (first | refine AW.seq ?_ | refine AW.block ?_ | refine AW.skip ?_) | ((with_reducible apply xcond); exact rfl) | ((with_reducible apply xdraw (id := 11)); refine AW.draw (id := 11) (.q 0 (.q 1 (.q 2 (.q 3 (.q 4 (.q 5 (.q 6 (.q 7 (.q 8 (.q 9 (.q 10 (.q 11 (.e 12 (.fin)))))))))))))) tok (by kernel_rfl) rfl (by kernel_rfl) ?_))) | ((with_reducible apply xarun); (first | ((with_reducible apply xrun_q); exact rfl; exact rfl; exact rfl) | ((with_reducible apply xrun_e); exact rfl) | with_reducible apply xrun_f)) | with_reducible (first | refine xthen ?_ | refine xblock ?_) | (with_reducible intro hc; (try simp only [decide_eq_true_eq, decide_eq_false_iff_not, Bool.not_true, Bool.not_false, Bool.not_eq_true', Bool.not_eq_false', ne_eq, not_true, reduceCtorEq] at hc); (try (exfalso; omega))) | with_reducible (first | exact trivial | refine And.intro ?_ ?_ | exact rfl) | exact Eq.refl true | (refine inR_i64.mpr ?_; first | omega | (simp only [List.length_map]; omega)))
      all_goals refine round_end (i+1) hil (by omega) (by (refine xwk (π := [0, 1]) (by decide) rfl ?_ ?_; (first | simp -implicitDefEqProofs only [go_sem, Int.reduceEq, Int.reduceLT, Int.reduceLE, Nat.reduceAdd, Nat.reduceSub, Nat.reduceMul, Nat.reduceEqDiff, Nat.reduceLeDiff, Nat.reducePow, ↓reduceIte, reduceCtorEq, hset2]); repeat' (first | exact renE_n | ((with_reducible apply renE_c); exact rfl; focus (first | (simp -implicitDefEqProofs only [go_sem, Int.reduceEq, Int.reduceLT, Int.reduceLE, Nat.reduceAdd, Nat.reduceSub, Nat.reduceMul, Nat.reduceEqDiff, Nat.reduceLeDiff, Nat.reducePow, ↓reduceIte, reduceCtorEq, hset2]; done))))))
    have hi' : i = ls.length := by omega
    subst hi'
    repeat' (first | ((with_reducible apply xsim); (first | ((with_reducible apply xo); exact rfl) | with_reducible apply xend)) | ((with_reducible apply xaw); (first | ((with_reducible apply xstepS); refine AW.step tok rfl ?_) | with_reducible (first | refine AW.seq ?_ | refine AW.ret ?_ | refine AW.exit ?_) | ((with_reducible apply xcond); exact rfl))) | with_reducible (first | refine xthen ?_ | refine xthen_e ?_ | refine xblock_e ?_ | refine xround_e ?_) | (with_reducible intro hc; (try simp only [decide_eq_true_eq, decide_eq_false_iff_not, Bool.not_true, Bool.not_false, Bool.not_eq_true', Bool.not_eq_false', ne_eq, not_true, reduceCtorEq] at hc); (try (exfalso; omega))) | with_reducible (first | exact trivial | refine And.intro ?_ ?_ | exact rfl) | exact Eq.refl true)
    (refine xfinOwn [0] (by first | exact .inl rfl | exact .inr rfl) rfl (by repeat' (first | exact trivial | exact rfl | refine And.intro ?_ ?_)) (by decide) rfl ?_ ?_ <;> simp -implicitDefEqProofs only [go_sem, Int.reduceEq, Int.reduceLT, Int.reduceLE, Nat.reduceAdd, Nat.reduceSub, Nat.reduceMul, Nat.reduceEqDiff, Nat.reduceLeDiff, Nat.reducePow, ↓reduceIte, reduceCtorEq, hlen])
end Go.Proofs.YticgjepndfjafaaGreat

namespace Go.Proofs.YticgjepndfjafaaGreat
open Go.Fw
attribute [local irreducible] Go.Fw.aops Go.Fw.arun

theorem c_laws.equalInts (xs : List Int) (hl : xs.length < 2^63) : ACon Tryz.prog 18 [.d (.lst (xs.map encN)), .d (.lst (xs.map encN))] [] (Is (.d (.bool true))) := by
  refine ACon.introW tok (nt := 26) Tryz.func18 rfl rfl rfl (by kernel_rfl) rfl ?_
  repeat' (first | ((with_reducible apply xsim); (first | ((with_reducible apply xlenM); exact rfl; exact rfl) | ((with_reducible apply xo); exact rfl) | with_reducible apply xend)) | ((with_reducible apply xaw); (first | ((with_reducible apply xstepS); refine AW.step tok rfl ?_) | with_reducible (first | refine AW.seq ?_ | refine AW.block ?_ | refine AW.skip ?_) | ((with_reducible apply xcond); exact rfl))) | with_reducible refine xthen ?_ | (with_reducible intro hc; (try simp only [decide_eq_true_eq, decide_eq_false_iff_not, Bool.not_true, Bool.not_false, Bool.not_eq_true', Bool.not_eq_false', ne_eq, not_true, reduceCtorEq, List.length_map] at hc); (try (exfalso; omega))) | with_reducible (first | exact trivial | refine And.intro ?_ ?_ | exact rfl))
  refine AW.loop (S := fun k : Nat => ⟨[(0, .d (.lst (xs.map encN))), (1, .d (.lst (xs.map encN))), (5, .d (.int .i64 k))], [], 26, 0⟩)
    (Pre := fun k => k ≤ xs.length) (μ := fun k => xs.length - k) 0 (Nat.zero_le _) ?_ ?_
  · (refine xwk (π := []) (by decide) rfl ?_ ?_; (first | exact trivial); repeat' (first | exact renE_n | ((with_reducible apply renE_c); exact rfl; focus (first | (simp -implicitDefEqProofs only [go_sem, Int.reduceEq, Int.reduceLT, Int.reduceLE, Nat.reduceAdd, Nat.reduceSub, Nat.reduceMul, Nat.reduceEqDiff, Nat.reduceLeDiff, Nat.reducePow, ↓reduceIte, reduceCtorEq]; done)))))
  · intro k hk
    by_cases hlt : k < xs.length
    · have hrow := at_map (f := encN) hlt
      repeat' (first | ((with_reducible apply xsim); (first | ((with_reducible apply xlenM); exact rfl; exact rfl) | ((with_reducible apply xo); exact rfl) | with_reducible apply xend | ((with_reducible apply xidxL); exact rfl; exact rfl; exact rfl; (first | exact hrow); omega; first | exact rfl | simp only [hsz]))) | ((with_reducible apply xaw); (first | ((with_reducible apply xstepS); refine AW.step tok rfl ?_) | ((with_reducible apply xstep); refine AW.region tok rfl ?_) | with_reducible (first | refine AW.seq ?_ | refine AW.block ?_ | refine AW.skip ?_) | ((with_reducible apply xcond); exact rfl) | ((with_reducible apply xdraw (id := 6)); refine AW.draw (id := 6) (.q 0 (.q 1 (.q 2 (.q 3 (.q 4 (.q 5 (.q 6 (.q 7 (.q 8 (.fin)))))))))) tok (by kernel_rfl) rfl (by kernel_rfl) ?_))) | ((with_reducible apply xarun); (first | ((with_reducible apply xrun_q); exact rfl; exact rfl; exact rfl) | with_reducible apply xrun_f)) | with_reducible (first | refine xthen ?_ | refine xblock ?_) | (with_reducible intro hc; (try simp only [decide_eq_true_eq, decide_eq_false_iff_not, Bool.not_true, Bool.not_false, Bool.not_eq_true', Bool.not_eq_false', ne_eq, not_true, reduceCtorEq, List.length_map] at hc); (try (exfalso; omega))) | with_reducible (first | exact trivial | refine And.intro ?_ ?_ | exact rfl) | (refine inR_i64.mpr ?_; first | omega | (simp only [List.length_map, List.length_map]; omega)))
      all_goals refine round_end (k+1) hlt (by omega) (by (refine xwk (π := []) (by decide) rfl ?_ ?_; (first | exact trivial); repeat' (first | exact renE_n | ((with_reducible apply renE_c); exact rfl; focus (first | (simp -implicitDefEqProofs only [go_sem, Int.reduceEq, Int.reduceLT, Int.reduceLE, Nat.reduceAdd, Nat.reduceSub, Nat.reduceMul, Nat.reduceEqDiff, Nat.reduceLeDiff, Nat.reducePow, ↓reduceIte, reduceCtorEq]; done))))))
    · repeat' (first | ((with_reducible apply xsim); (first | ((with_reducible apply xlenM); exact rfl; exact rfl) | ((with_reducible apply xo); exact rfl) | with_reducible apply xend)) | ((with_reducible apply xaw); (first | ((with_reducible apply xstepS); refine AW.step tok rfl ?_) | with_reducible (first | refine AW.seq ?_ | refine AW.ret ?_ | refine AW.exit ?_) | ((with_reducible apply xcond); exact rfl))) | with_reducible (first | refine xthen ?_ | refine xthen_e ?_ | refine xblock_e ?_ | refine xround_e ?_) | (with_reducible intro hc; (try simp only [decide_eq_true_eq, decide_eq_false_iff_not, Bool.not_true, Bool.not_false, Bool.not_eq_true', Bool.not_eq_false', ne_eq, not_true, reduceCtorEq, List.length_map] at hc); (try (exfalso; omega))) | with_reducible (first | exact trivial | refine And.intro ?_ ?_ | exact rfl))
      (refine xfinIs (by first | exact .inl rfl | exact .inr rfl) rfl (by repeat' (first | exact trivial | exact rfl | refine And.intro ?_ ?_)) rfl ?_ rfl; first | with_reducible exact rfl)
end Go.Proofs.YticgjepndfjafaaGreat

namespace Go.Proofs.YticgjepndfjafaaGreat
open Go.Fw
attribute [local irreducible] Go.Fw.aops Go.Fw.arun

theorem colSpans_take {cs : List Cell} {k : Nat} (h : k < cs.length) : (colSpans cs).take (k + 1) = (colSpans cs).take k ++ [colSpan cs[k]] := by
  rw [List.take_succ_eq_append_getElem (by simp [colSpans]; exact h)]; simp [colSpans]
theorem rowSpans_take {cs : List Cell} {k : Nat} (h : k < cs.length) : (rowSpans cs).take (k + 1) = (rowSpans cs).take k ++ [rowSpan cs[k]] := by
  rw [List.take_succ_eq_append_getElem (by simp [rowSpans]; exact h)]; simp [rowSpans]

theorem c_spans (g : Grid) (h : GOk g) : ACon Tryz.prog 82 [vGrid g] [] (Is (.tup [.d (.lst ((colSpans g.cells).map encSpan)), .d (.lst ((rowSpans g.cells).map encSpan))])) := by
  have h8 := h.hi
  have hcl : (colSpans g.cells).length = g.cells.length := by simp [colSpans]
  have hrl : (rowSpans g.cells).length = g.cells.length := by simp [rowSpans]
  refine ACon.introW tok (nt := 46) Tryz.func82 rfl rfl rfl (by kernel_rfl) rfl ?_
  repeat' (first | ((with_reducible apply xsim); (first | ((with_reducible apply xlenM); exact rfl; exact rfl) | ((with_reducible apply xo); exact rfl) | with_reducible apply xend | ((with_reducible apply xbox); exact rfl; simp only [backV, backVs, backVs_mapd, backId, backO, List.map_cons, List.map_nil, List.getElem?_nil, List.length_cons, List.length_nil, Nat.reduceAdd, Nat.reduceSub, List.cons_append, List.nil_append, List.append_nil]))) | ((with_reducible apply xaw); (first | ((with_reducible apply xstepS); refine AW.step tok rfl ?_) | with_reducible (first | refine AW.seq ?_ | refine AW.block ?_))) | with_reducible exact trivial)
  refine AW.own 4 3 rfl ?_
  refine AW.own 5 3 rfl ?_
  refine AW.loop (S := fun k : Nat => ⟨[(4, .msl 0 3 0 k), (5, .msl 1 3 0 k), (9, .d (.lst (g.cells.map encCell))), (10, .d (.int .i64 g.cells.length)), (11, .d (.int .i64 k))], [.arr 3 (((colSpans g.cells).take k).map encSpan), .arr 3 (((rowSpans g.cells).take k).map encSpan)], 46, 0⟩)
    (Pre := fun k => k ≤ g.cells.length) (μ := fun k => g.cells.length - k) 0 (Nat.zero_le _) ?_ ?_
  · (refine xwk (π := [1, 2]) (by decide) rfl ?_ ?_; (first | simp -implicitDefEqProofs only [go_sem, Int.reduceEq, Int.reduceLT, Int.reduceLE, Nat.reduceAdd, Nat.reduceSub, Nat.reduceMul, Nat.reduceEqDiff, Nat.reduceLeDiff, Nat.reducePow, ↓reduceIte, reduceCtorEq, List.take_zero]); repeat' (first | exact renE_n | ((with_reducible apply renE_c); exact rfl; focus (first | (simp -implicitDefEqProofs only [go_sem, Int.reduceEq, Int.reduceLT, Int.reduceLE, Nat.reduceAdd, Nat.reduceSub, Nat.reduceMul, Nat.reduceEqDiff, Nat.reduceLeDiff, Nat.reducePow, ↓reduceIte, reduceCtorEq, List.take_zero]; done)))))
  intro k hk
  have hc1 : ((colSpans g.cells).take k).length = k := by simp [hcl]; omega
  have hc2 : ((rowSpans g.cells).take k).length = k := by simp [hrl]; omega
  by_cases hlt : k < g.cells.length
  · have hrow := at_map (f := encCell) hlt
    have hs1 := colSpans_take hlt
    have hs2 := rowSpans_take hlt
    have hb := h.ok _ (List.getElem_mem hlt)
    repeat' (first | ((with_reducible apply xsim); (first | ((with_reducible apply xo); exact rfl) | ((with_reducible apply xst); exact rfl) | with_reducible apply xend | ((with_reducible apply xalloc); exact rfl; simp only [backV, backVs, backVs_mapd, backId, backO, List.map_cons, List.map_nil, List.getElem?_nil, List.length_cons, List.length_nil, Nat.reduceAdd, Nat.reduceSub, List.cons_append, List.nil_append, List.append_nil]) | ((with_reducible apply xbuild); exact rfl; exact rfl; exact rfl; exact rfl; exact rfl; simp only [backV, backVs, backVs_mapd, backId, backO, List.map_cons, List.map_nil, List.getElem?_nil, List.length_cons, List.length_nil, Nat.reduceAdd, Nat.reduceSub, List.cons_append, List.nil_append, List.append_nil]) | ((with_reducible apply xidxL); exact rfl; exact rfl; exact rfl; (first | exact hrow); omega; first | exact rfl | simp only [hsz]) | simp -implicitDefEqProofs only [go_sem, Int.reduceEq, Int.reduceLT, Int.reduceLE, Nat.reduceAdd, Nat.reduceSub, Nat.reduceMul, Nat.reduceEqDiff, Nat.reduceLeDiff, Nat.reducePow, ↓reduceIte, reduceCtorEq, List.length_map, hc1, hc2])) | ((with_reducible apply xaw); (first | ((with_reducible apply xstepS); refine AW.step tok rfl ?_) | ((with_reducible apply xstep); refine AW.region tok rfl ?_) | with_reducible (first | refine AW.seq ?_ | refine AW.block ?_ | refine AW.skip ?_) | ((with_reducible apply xcond); exact rfl))) | with_reducible refine xthen ?_ | (with_reducible intro hc; (try simp only [decide_eq_true_eq, decide_eq_false_iff_not, Bool.not_true, Bool.not_false, Bool.not_eq_true', Bool.not_eq_false', ne_eq, not_true, reduceCtorEq, List.length_map, hc1, hc2] at hc); (try (exfalso; omega))) | with_reducible (first | exact trivial | refine And.intro ?_ ?_ | exact rfl) | exact Eq.refl true | (refine inR_i64.mpr ?_; first | omega | (simp only [List.length_map, List.length_map, hc1, hc2]; omega)) | omega)
    refine round_end (k+1) hlt (by omega) (by (refine xwk (π := [4, 6]) (by decide) rfl ?_ ?_; (first | simp -implicitDefEqProofs only [go_sem, Int.reduceEq, Int.reduceLT, Int.reduceLE, Nat.reduceAdd, Nat.reduceSub, Nat.reduceMul, Nat.reduceEqDiff, Nat.reduceLeDiff, Nat.reducePow, ↓reduceIte, reduceCtorEq, hs1, hs2, List.map_append, colSpan, rowSpan]); repeat' (first | exact renE_n | ((with_reducible apply renE_c); exact rfl; focus (first | (simp -implicitDefEqProofs only [go_sem, Int.reduceEq, Int.reduceLT, Int.reduceLE, Nat.reduceAdd, Nat.reduceSub, Nat.reduceMul, Nat.reduceEqDiff, Nat.reduceLeDiff, Nat.reducePow, ↓reduceIte, reduceCtorEq, hs1, hs2, List.map_append, colSpan, rowSpan]; done))))))
  have hk' : k = g.cells.length := by omega
  subst hk'
  have t1 : (colSpans g.cells).take g.cells.length = colSpans g.cells := by rw [← hcl, List.take_length]
  have t2 : (rowSpans g.cells).take g.cells.length = rowSpans g.cells := by rw [← hrl, List.take_length]
  rw [t1, t2]
  repeat' (first | ((with_reducible apply xsim); (first | ((with_reducible apply xo); exact rfl) | with_reducible apply xend)) | ((with_reducible apply xaw); (first | ((with_reducible apply xstepS); refine AW.step tok rfl ?_) | with_reducible (first | refine AW.seq ?_ | refine AW.ret ?_ | refine AW.exit ?_) | ((with_reducible apply xcond); exact rfl))) | with_reducible (first | refine xthen ?_ | refine xthen_e ?_ | refine xblock_e ?_ | refine xround_e ?_) | (with_reducible intro hc; (try simp only [decide_eq_true_eq, decide_eq_false_iff_not, Bool.not_true, Bool.not_false, Bool.not_eq_true', Bool.not_eq_false', ne_eq, not_true, reduceCtorEq, List.length_map] at hc); (try (exfalso; omega))) | with_reducible (first | exact trivial | refine And.intro ?_ ?_ | exact rfl))
  refine xfinW (Weak.freezeA 2 0 3 rfl rfl (by simp [hcl])) ?_
  refine xfinW (Weak.freezeA 3 1 3 rfl rfl (by simp [hrl])) ?_
  (refine xfinIs (by first | exact .inl rfl | exact .inr rfl) rfl (by repeat' (first | exact trivial | exact rfl | refine And.intro ?_ ?_)) rfl ?_ rfl; first | with_reducible exact rfl)

theorem c_colSpansS (g : Grid) (h : GOk g) : ACon Tryz.prog 102 [vGrid g] [] (Is (.d (.lst ((colSpans g.cells).map encSpan)))) := by
  have h8 := h.hi
  have hcl : (colSpans g.cells).length = g.cells.length := by simp [colSpans]
  refine ACon.introW tok (nt := 34) Tryz.func102 rfl rfl rfl (by kernel_rfl) rfl ?_
  repeat' (first | ((with_reducible apply xsim); (first | ((with_reducible apply xo); exact rfl) | with_reducible apply xend | ((with_reducible apply xbox); exact rfl; simp only [backV, backVs, backVs_mapd, backId, backO, List.map_cons, List.map_nil, List.getElem?_nil, List.length_cons, List.length_nil, Nat.reduceAdd, Nat.reduceSub, List.cons_append, List.nil_append, List.append_nil]) | ((with_reducible apply xbuild); exact rfl; exact rfl; exact rfl; exact rfl; exact rfl; simp only [backV, backVs, backVs_mapd, backId, backO, List.map_cons, List.map_nil, List.getElem?_nil, List.length_cons, List.length_nil, Nat.reduceAdd, Nat.reduceSub, List.cons_append, List.nil_append, List.append_nil]))) | ((with_reducible apply xaw); (first | ((with_reducible apply xstepS); refine AW.step tok rfl ?_) | with_reducible (first | refine AW.seq ?_ | refine AW.block ?_))) | with_reducible exact trivial)
  refine AW.loop (S := fun k : Nat => ⟨[(1, .oref 1 0), (3, .msl 0 3 0 k), (4, .d (.int .i64 k))], [.arr 3 (((colSpans g.cells).take k).map encSpan), .box [.d (.lst (g.cols.map encLine)), .d (.lst (g.rows.map encLine)), .d (.lst (g.cells.map encCell))]], 34, 0⟩)
    (Pre := fun k => k ≤ g.cells.length) (μ := fun k => g.cells.length - k) 0 (Nat.zero_le _) ?_ ?_
  · (refine xwk (π := [1, 0]) (by decide) rfl ?_ ?_; (first | simp -implicitDefEqProofs only [go_sem, Int.reduceEq, Int.reduceLT, Int.reduceLE, Nat.reduceAdd, Nat.reduceSub, Nat.reduceMul, Nat.reduceEqDiff, Nat.reduceLeDiff, Nat.reducePow, ↓reduceIte, reduceCtorEq, List.take_zero, encGrid]); repeat' (first | exact renE_n | ((with_reducible apply renE_c); exact rfl; focus (first | (simp -implicitDefEqProofs only [go_sem, Int.reduceEq, Int.reduceLT, Int.reduceLE, Nat.reduceAdd, Nat.reduceSub, Nat.reduceMul, Nat.reduceEqDiff, Nat.reduceLeDiff, Nat.reducePow, ↓reduceIte, reduceCtorEq, List.take_zero, encGrid]; done)))))
  intro k hk
  have hc1 : ((colSpans g.cells).take k).length = k := by simp [hcl]; omega
  by_cases hlt : k < g.cells.length
  · have hrow := at_map (f := encCell) hlt
    have hs1 := colSpans_take hlt
    have hb := h.ok _ (List.getElem_mem hlt)
    repeat' (first | ((with_reducible apply xsim); (first | ((with_reducible apply xlenM); exact rfl; exact rfl) | ((with_reducible apply xo); exact rfl) | ((with_reducible apply xst); exact rfl) | with_reducible apply xend | ((with_reducible apply xalloc); exact rfl; simp only [backV, backVs, backVs_mapd, backId, backO, List.map_cons, List.map_nil, List.getElem?_nil, List.length_cons, List.length_nil, Nat.reduceAdd, Nat.reduceSub, List.cons_append, List.nil_append, List.append_nil]) | ((with_reducible apply xbuild); exact rfl; exact rfl; exact rfl; exact rfl; exact rfl; simp only [backV, backVs, backVs_mapd, backId, backO, List.map_cons, List.map_nil, List.getElem?_nil, List.length_cons, List.length_nil, Nat.reduceAdd, Nat.reduceSub, List.cons_append, List.nil_append, List.append_nil]) | ((with_reducible apply xidxL); exact rfl; exact rfl; exact rfl; (first | exact hrow); omega; first | exact rfl | simp only [hsz]) | simp -implicitDefEqProofs only [go_sem, Int.reduceEq, Int.reduceLT, Int.reduceLE, Nat.reduceAdd, Nat.reduceSub, Nat.reduceMul, Nat.reduceEqDiff, Nat.reduceLeDiff, Nat.reducePow, ↓reduceIte, reduceCtorEq, List.length_map, hc1])) | ((with_reducible apply xaw); (first | ((with_reducible apply xstepS); refine AW.step tok rfl ?_) | ((with_reducible apply xstep); refine AW.region tok rfl ?_) | with_reducible (first | refine AW.seq ?_ | refine AW.block ?_ | refine AW.skip ?_) | ((with_reducible apply xcond); exact rfl))) | with_reducible refine xthen ?_ | (with_reducible intro hc; (try simp only [decide_eq_true_eq, decide_eq_false_iff_not, Bool.not_true, Bool.not_false, Bool.not_eq_true', Bool.not_eq_false', ne_eq, not_true, reduceCtorEq, List.length_map, hc1] at hc); (try (exfalso; omega))) | with_reducible (first | exact trivial | refine And.intro ?_ ?_ | exact rfl) | exact Eq.refl true | (refine inR_i64.mpr ?_; first | omega | (simp only [List.length_map, List.length_map, hc1]; omega)) | omega)
    refine round_end (k+1) hlt (by omega) (by (refine xwk (π := [4, 1]) (by decide) rfl ?_ ?_; (first | simp -implicitDefEqProofs only [go_sem, Int.reduceEq, Int.reduceLT, Int.reduceLE, Nat.reduceAdd, Nat.reduceSub, Nat.reduceMul, Nat.reduceEqDiff, Nat.reduceLeDiff, Nat.reducePow, ↓reduceIte, reduceCtorEq, hs1, List.map_append, colSpan]); repeat' (first | exact renE_n | ((with_reducible apply renE_c); exact rfl; focus (first | (simp -implicitDefEqProofs only [go_sem, Int.reduceEq, Int.reduceLT, Int.reduceLE, Nat.reduceAdd, Nat.reduceSub, Nat.reduceMul, Nat.reduceEqDiff, Nat.reduceLeDiff, Nat.reducePow, ↓reduceIte, reduceCtorEq, hs1, List.map_append, colSpan]; done))))))
  have hk' : k = g.cells.length := by omega
  subst hk'
  have t1 : (colSpans g.cells).take g.cells.length = colSpans g.cells := by rw [← hcl, List.take_length]
  rw [t1]
  repeat' (first | ((with_reducible apply xsim); (first | ((with_reducible apply xlenM); exact rfl; exact rfl) | ((with_reducible apply xo); exact rfl) | with_reducible apply xend)) | ((with_reducible apply xaw); (first | ((with_reducible apply xstepS); refine AW.step tok rfl ?_) | with_reducible (first | refine AW.seq ?_ | refine AW.ret ?_ | refine AW.exit ?_) | ((with_reducible apply xcond); exact rfl))) | with_reducible (first | refine xthen ?_ | refine xthen_e ?_ | refine xblock_e ?_ | refine xround_e ?_) | (with_reducible intro hc; (try simp only [decide_eq_true_eq, decide_eq_false_iff_not, Bool.not_true, Bool.not_false, Bool.not_eq_true', Bool.not_eq_false', ne_eq, not_true, reduceCtorEq, List.length_map] at hc); (try (exfalso; omega))) | with_reducible (first | exact trivial | refine And.intro ?_ ?_ | exact rfl))
  refine xfinW (Weak.freezeA 2 0 3 rfl rfl (by simp [hcl])) ?_
  (refine xfinIs (by first | exact .inl rfl | exact .inr rfl) rfl (by repeat' (first | exact trivial | exact rfl | refine And.intro ?_ ?_)) rfl ?_ rfl; first | with_reducible exact rfl)
theorem c_rowSpansS (g : Grid) (h : GOk g) : ACon Tryz.prog 103 [vGrid g] [] (Is (.d (.lst ((rowSpans g.cells).map encSpan)))) := by
  have h8 := h.hi
  have hcl : (rowSpans g.cells).length = g.cells.length := by simp [rowSpans]
  refine ACon.introW tok (nt := 34) Tryz.func103 rfl rfl rfl (by kernel_rfl) rfl ?_
  repeat' (first | ((with_reducible apply xsim); (first | ((with_reducible apply xo); exact rfl) | with_reducible apply xend | ((with_reducible apply xbox); exact rfl; simp only [backV, backVs, backVs_mapd, backId, backO, List.map_cons, List.map_nil, List.getElem?_nil, List.length_cons, List.length_nil, Nat.reduceAdd, Nat.reduceSub, List.cons_append, List.nil_append, List.append_nil]) | ((with_reducible apply xbuild); exact rfl; exact rfl; exact rfl; exact rfl; exact rfl; simp only [backV, backVs, backVs_mapd, backId, backO, List.map_cons, List.map_nil, List.getElem?_nil, List.length_cons, List.length_nil, Nat.reduceAdd, Nat.reduceSub, List.cons_append, List.nil_append, List.append_nil]))) | ((with_reducible apply xaw); (first | ((with_reducible apply xstepS); refine AW.step tok rfl ?_) | with_reducible (first | refine AW.seq ?_ | refine AW.block ?_))) | with_reducible exact trivial)
  refine AW.loop (S := fun k : Nat => ⟨[(1, .oref 1 0), (3, .msl 0 3 0 k), (4, .d (.int .i64 k))], [.arr 3 (((rowSpans g.cells).take k).map encSpan), .box [.d (.lst (g.cols.map encLine)), .d (.lst (g.rows.map encLine)), .d (.lst (g.cells.map encCell))]], 34, 0⟩)
    (Pre := fun k => k ≤ g.cells.length) (μ := fun k => g.cells.length - k) 0 (Nat.zero_le _) ?_ ?_
  · (refine xwk (π := [1, 0]) (by decide) rfl ?_ ?_; (first | simp -implicitDefEqProofs only [go_sem, Int.reduceEq, Int.reduceLT, Int.reduceLE, Nat.reduceAdd, Nat.reduceSub, Nat.reduceMul, Nat.reduceEqDiff, Nat.reduceLeDiff, Nat.reducePow, ↓reduceIte, reduceCtorEq, List.take_zero, encGrid]); repeat' (first | exact renE_n | ((with_reducible apply renE_c); exact rfl; focus (first | (simp -implicitDefEqProofs only [go_sem, Int.reduceEq, Int.reduceLT, Int.reduceLE, Nat.reduceAdd, Nat.reduceSub, Nat.reduceMul, Nat.reduceEqDiff, Nat.reduceLeDiff, Nat.reducePow, ↓reduceIte, reduceCtorEq, List.take_zero, encGrid]; done)))))
  intro k hk
  have hc1 : ((rowSpans g.cells).take k).length = k := by simp [hcl]; omega
  by_cases hlt : k < g.cells.length
  · have hrow := at_map (f := encCell) hlt
    have hs1 := rowSpans_take hlt
    have hb := h.ok _ (List.getElem_mem hlt)
    repeat' (first | ((with_reducible apply xsim); (first | ((with_reducible apply xlenM); exact rfl; exact rfl) | ((with_reducible apply xo); exact rfl) | ((with_reducible apply xst); exact rfl) | with_reducible apply xend | ((with_reducible apply xalloc); exact rfl; simp only [backV, backVs, backVs_mapd, backId, backO, List.map_cons, List.map_nil, List.getElem?_nil, List.length_cons, List.length_nil, Nat.reduceAdd, Nat.reduceSub, List.cons_append, List.nil_append, List.append_nil]) | ((with_reducible apply xbuild); exact rfl; exact rfl; exact rfl; exact rfl; exact rfl; simp only [backV, backVs, backVs_mapd, backId, backO, List.map_cons, List.map_nil, List.getElem?_nil, List.length_cons, List.length_nil, Nat.reduceAdd, Nat.reduceSub, List.cons_append, List.nil_append, List.append_nil]) | ((with_reducible apply xidxL); exact rfl; exact rfl; exact rfl; (first | exact hrow); omega; first | exact rfl | simp only [hsz]) | simp -implicitDefEqProofs only [go_sem, Int.reduceEq, Int.reduceLT, Int.reduceLE, Nat.reduceAdd, Nat.reduceSub, Nat.reduceMul, Nat.reduceEqDiff, Nat.reduceLeDiff, Nat.reducePow, ↓reduceIte, reduceCtorEq, List.length_map, hc1])) | ((with_reducible apply xaw); (first | ((with_reducible apply xstepS); refine AW.step tok rfl ?_) | ((with_reducible apply xstep); refine AW.region tok rfl ?_) | with_reducible (first | refine AW.seq ?_ | refine AW.block ?_ | refine AW.skip ?_) | ((with_reducible apply xcond); exact rfl))) | with_reducible refine xthen ?_ | (with_reducible intro hc; (try simp only [decide_eq_true_eq, decide_eq_false_iff_not, Bool.not_true, Bool.not_false, Bool.not_eq_true', Bool.not_eq_false', ne_eq, not_true, reduceCtorEq, List.length_map, hc1] at hc); (try (exfalso; omega))) | with_reducible (first | exact trivial | refine And.intro ?_ ?_ | exact rfl) | exact Eq.refl true | (refine inR_i64.mpr ?_; first | omega | (simp only [List.length_map, List.length_map, hc1]; omega)) | omega)
    refine round_end (k+1) hlt (by omega) (by (refine xwk (π := [4, 1]) (by decide) rfl ?_ ?_; (first | simp -implicitDefEqProofs only [go_sem, Int.reduceEq, Int.reduceLT, Int.reduceLE, Nat.reduceAdd, Nat.reduceSub, Nat.reduceMul, Nat.reduceEqDiff, Nat.reduceLeDiff, Nat.reducePow, ↓reduceIte, reduceCtorEq, hs1, List.map_append, rowSpan]); repeat' (first | exact renE_n | ((with_reducible apply renE_c); exact rfl; focus (first | (simp -implicitDefEqProofs only [go_sem, Int.reduceEq, Int.reduceLT, Int.reduceLE, Nat.reduceAdd, Nat.reduceSub, Nat.reduceMul, Nat.reduceEqDiff, Nat.reduceLeDiff, Nat.reducePow, ↓reduceIte, reduceCtorEq, hs1, List.map_append, rowSpan]; done))))))
  have hk' : k = g.cells.length := by omega
  subst hk'
  have t1 : (rowSpans g.cells).take g.cells.length = rowSpans g.cells := by rw [← hcl, List.take_length]
  rw [t1]
  repeat' (first | ((with_reducible apply xsim); (first | ((with_reducible apply xlenM); exact rfl; exact rfl) | ((with_reducible apply xo); exact rfl) | with_reducible apply xend)) | ((with_reducible apply xaw); (first | ((with_reducible apply xstepS); refine AW.step tok rfl ?_) | with_reducible (first | refine AW.seq ?_ | refine AW.ret ?_ | refine AW.exit ?_) | ((with_reducible apply xcond); exact rfl))) | with_reducible (first | refine xthen ?_ | refine xthen_e ?_ | refine xblock_e ?_ | refine xround_e ?_) | (with_reducible intro hc; (try simp only [decide_eq_true_eq, decide_eq_false_iff_not, Bool.not_true, Bool.not_false, Bool.not_eq_true', Bool.not_eq_false', ne_eq, not_true, reduceCtorEq, List.length_map] at hc); (try (exfalso; omega))) | with_reducible (first | exact trivial | refine And.intro ?_ ?_ | exact rfl))
  refine xfinW (Weak.freezeA 2 0 3 rfl rfl (by simp [hcl])) ?_
  (refine xfinIs (by first | exact .inl rfl | exact .inr rfl) rfl (by repeat' (first | exact trivial | exact rfl | refine And.intro ?_ ?_)) rfl ?_ rfl; first | with_reducible exact rfl)

theorem c_requestI (g : Grid) (h : GOk g) : ACon Tryz.prog 68 [vGrid g] [] (Is (.tup [.d (.int .i64 (gridReq g).1), .d (.int .i64 (gridReq g).2)])) := by
  have r1 := requests_rok h.cols h.cspans
  have r2 := requests_rok h.rows h.rspans
  refine ACon.introW tok (nt := 21) Tryz.func68 rfl rfl rfl (by kernel_rfl) rfl ?_
  repeat' (first | ((with_reducible apply xsim); (first | ((with_reducible apply xo); exact rfl) | with_reducible apply xend | ((with_reducible apply xbox); exact rfl; simp only [backV, backVs, backVs_mapd, backId, backO, List.map_cons, List.map_nil, List.getElem?_nil, List.length_cons, List.length_nil, Nat.reduceAdd, Nat.reduceSub, List.cons_append, List.nil_append, List.append_nil]) | ((with_reducible apply xcallIs); exact rfl; exact rfl; (first | exact c_spans g h | exact ORows.data (c_lineRequestsI _ _ h.cols h.cspans) | exact ORows.data (c_lineRequestsI _ _ h.rows h.rspans) | exact c_sum _ (r1.nums h.cols.hi) | exact c_sum _ (r2.nums h.rows.hi)); exact rfl))) | ((with_reducible apply xaw); (first | ((with_reducible apply xstepS); refine AW.step tok rfl ?_) | with_reducible (first | refine AW.seq ?_ | refine AW.ret ?_) | ((with_reducible apply xdraw (id := 2)); refine AW.draw (id := 2) (.q 0 (.q 1 (.q 2 (.q 3 (.q 4 (.q 5 (.q 6 (.q 7 (.q 8 (.q 9 (.q 10 (.q 11 (.fin))))))))))))) tok (by kernel_rfl) rfl (by kernel_rfl) ?_))) | ((with_reducible apply xarun); (first | ((with_reducible apply xrun_q); exact rfl; exact rfl; exact rfl) | ((with_reducible apply xrun_c); exact rfl; exact rfl; exact rfl; exact rfl; exact rfl; exact rfl; (first | exact c_spans g h | exact ORows.data (c_lineRequestsI _ _ h.cols h.cspans) | exact ORows.data (c_lineRequestsI _ _ h.rows h.rspans) | exact c_sum _ (r1.nums h.cols.hi) | exact c_sum _ (r2.nums h.rows.hi)); exact rfl) | with_reducible apply xrun_f)) | with_reducible refine xthen ?_ | with_reducible exact trivial | exact Eq.refl true)
  all_goals (refine xfinIs (by first | exact .inl rfl | exact .inr rfl) rfl (by repeat' (first | exact trivial | exact rfl | refine And.intro ?_ ?_)) rfl ?_ rfl; first | (simp -implicitDefEqProofs only [go_sem, Int.reduceEq, Int.reduceLT, Int.reduceLE, Nat.reduceAdd, Nat.reduceSub, Nat.reduceMul, Nat.reduceEqDiff, Nat.reduceLeDiff, Nat.reducePow, ↓reduceIte, reduceCtorEq, gridReq] <;> (first | rfl | omega | exact decide_eq_decide.2 (by omega) | exact decide_eq_false (by omega) | exact decide_eq_true (by omega) | (symm; first | exact decide_eq_false (by omega) | exact decide_eq_true (by omega)) | (rw [Bool.eq_iff_iff]; simp only [Bool.not_eq_true', Bool.not_eq_false', Bool.and_eq_true, Bool.or_eq_true, decide_eq_true_eq, decide_eq_false_iff_not, reduceCtorEq, true_iff, iff_true, false_iff, iff_false]; omega))))
theorem c_requestS (g : Grid) (h : GOk g) : ACon Tryz.prog 89 [vGrid g] [] (Is (.tup [.d (.int .i64 (gridReq g).1), .d (.int .i64 (gridReq g).2)])) := by
  have r1 := requests_rok h.cols h.cspans
  have r2 := requests_rok h.rows h.rspans
  refine ACon.introW tok (nt := 16) Tryz.func89 rfl rfl rfl (by kernel_rfl) rfl ?_
  repeat' (first | ((with_reducible apply xsim); (first | ((with_reducible apply xo); exact rfl) | with_reducible apply xend | ((with_reducible apply xbox); exact rfl; simp only [backV, backVs, backVs_mapd, backId, backO, List.map_cons, List.map_nil, List.getElem?_nil, List.length_cons, List.length_nil, Nat.reduceAdd, Nat.reduceSub, List.cons_append, List.nil_append, List.append_nil]))) | ((with_reducible apply xaw); (first | ((with_reducible apply xstepS); refine AW.step tok rfl ?_) | with_reducible (first | refine AW.seq ?_ | refine AW.ret ?_) | ((with_reducible apply xdraw (id := 1)); refine AW.draw (id := 1) (.q 0 (.q 1 (.q 2 (.q 3 (.q 4 (.q 5 (.q 6 (.q 7 (.q 8 (.q 9 (.q 10 (.q 11 (.q 12 (.q 13 (.fin))))))))))))))) tok (by kernel_rfl) rfl (by kernel_rfl) ?_))) | ((with_reducible apply xarun); (first | ((with_reducible apply xrun_q); exact rfl; exact rfl; exact rfl) | ((with_reducible apply xrun_c); exact rfl; exact rfl; exact rfl; exact rfl; exact rfl; exact rfl; (first | exact c_colSpansS g h | exact c_rowSpansS g h | exact ORows.data (c_wished _ _ h.cols h.cspans) | exact ORows.data (c_wished _ _ h.rows h.rspans) | exact c_total _ (r1.nums h.cols.hi) | exact c_total _ (r2.nums h.rows.hi)); exact rfl) | with_reducible apply xrun_f)) | with_reducible refine xthen ?_ | with_reducible exact trivial | exact Eq.refl true)
  all_goals (refine xfinIs (by first | exact .inl rfl | exact .inr rfl) rfl (by repeat' (first | exact trivial | exact rfl | refine And.intro ?_ ?_)) rfl ?_ rfl; first | (simp -implicitDefEqProofs only [go_sem, Int.reduceEq, Int.reduceLT, Int.reduceLE, Nat.reduceAdd, Nat.reduceSub, Nat.reduceMul, Nat.reduceEqDiff, Nat.reduceLeDiff, Nat.reducePow, ↓reduceIte, reduceCtorEq, gridReq] <;> (first | rfl | omega | exact decide_eq_decide.2 (by omega) | exact decide_eq_false (by omega) | exact decide_eq_true (by omega) | (symm; first | exact decide_eq_false (by omega) | exact decide_eq_true (by omega)) | (rw [Bool.eq_iff_iff]; simp only [Bool.not_eq_true', Bool.not_eq_false', Bool.and_eq_true, Bool.or_eq_true, decide_eq_true_eq, decide_eq_false_iff_not, reduceCtorEq, true_iff, iff_true, false_iff, iff_false]; omega))))

end Go.Proofs.YticgjepndfjafaaGreat

namespace Go.Proofs.YticgjepndfjafaaGreat
open Go.Fw
attribute [local irreducible] Go.Fw.aops Go.Fw.arun

theorem c_stuckI (room size : Int) (a b : Bool) (hr : 0 ≤ room ∧ room ≤ 2^40) (hs : 0 ≤ size ∧ size ≤ 2^40) : ACon Tryz.prog 85 [.d (.int .i64 room), .d (.int .i64 size), .d (.bool a), .d (.bool b)] [] (Is (.tup [.d (.int .i64 (stuckAt room size a b)), .d (.int .i64 (stuckLen room size a b))])) := by
  have e := tdiv2 (n := room - min size room) (by omega)
  cases a <;> cases b
  all_goals
    refine ACon.introW tok (nt := 33) Tryz.func85 rfl rfl rfl (by kernel_rfl) rfl ?_
    repeat' (first | ((with_reducible apply xsim); (first | ((with_reducible apply xo); exact rfl) | with_reducible apply xend | ((with_reducible apply xguardS); exact rfl; exact rfl))) | ((with_reducible apply xaw); (first | ((with_reducible apply xstepS); refine AW.step tok rfl ?_) | with_reducible (first | refine AW.seq ?_ | refine AW.block ?_ | refine AW.skip ?_ | refine AW.ret ?_) | ((with_reducible apply xcond); exact rfl))) | with_reducible (first | refine xthen ?_ | refine xthen_r ?_ | refine xblock ?_ | refine xblock_r ?_) | (with_reducible intro hc; (try simp only [decide_eq_true_eq, decide_eq_false_iff_not, Bool.not_true, Bool.not_false, Bool.not_eq_true', Bool.not_eq_false', ne_eq, not_true, reduceCtorEq] at hc); (try (exfalso; omega))) | with_reducible (first | exact trivial | refine And.intro ?_ ?_ | exact rfl) | (refine inR_i64.mpr ?_; first | omega | (simp only [List.length_map]; omega)) | omega)
    all_goals (refine xfinIs (by first | exact .inl rfl | exact .inr rfl) rfl (by repeat' (first | exact trivial | exact rfl | refine And.intro ?_ ?_)) rfl ?_ rfl; first | (simp -implicitDefEqProofs only [go_sem, Int.reduceEq, Int.reduceLT, Int.reduceLE, Nat.reduceAdd, Nat.reduceSub, Nat.reduceMul, Nat.reduceEqDiff, Nat.reduceLeDiff, Nat.reducePow, ↓reduceIte, reduceCtorEq, stuckAt, stuckLen, Bool.false_eq_true, Bool.and_self, Bool.and_false, Bool.false_and, Bool.and_true] <;> (first | rfl | omega | exact decide_eq_decide.2 (by omega) | exact decide_eq_false (by omega) | exact decide_eq_true (by omega) | (symm; first | exact decide_eq_false (by omega) | exact decide_eq_true (by omega)) | (rw [Bool.eq_iff_iff]; simp only [Bool.not_eq_true', Bool.not_eq_false', Bool.and_eq_true, Bool.or_eq_true, decide_eq_true_eq, decide_eq_false_iff_not, reduceCtorEq, true_iff, iff_true, false_iff, iff_false]; omega))))
theorem c_stuckS (p room size : Int) (a b : Bool) (hp : -2^40 < p ∧ p < 2^40) (hr : 0 ≤ room ∧ room ≤ 2^40) (hs : 0 ≤ size ∧ size ≤ 2^40) : ACon Tryz.prog 106 [.d (.int .i64 p), .d (.int .i64 room), .d (.int .i64 size), .d (.bool a), .d (.bool b)] [] (Is (.tup [.d (.int .i64 (p + stuckAt room size a b)), .d (.int .i64 (stuckLen room size a b))])) := by
  have e := tdiv2 (n := room - min size room) (by omega)
  cases a <;> cases b
  all_goals
    refine ACon.introW tok (nt := 42) Tryz.func106 rfl rfl rfl (by kernel_rfl) rfl ?_
    repeat' (first | ((with_reducible apply xsim); (first | ((with_reducible apply xo); exact rfl) | with_reducible apply xend | ((with_reducible apply xguardS); exact rfl; exact rfl))) | ((with_reducible apply xaw); (first | ((with_reducible apply xstepS); refine AW.step tok rfl ?_) | with_reducible (first | refine AW.seq ?_ | refine AW.block ?_ | refine AW.skip ?_ | refine AW.ret ?_) | ((with_reducible apply xcond); exact rfl))) | with_reducible (first | refine xthen ?_ | refine xthen_r ?_ | refine xblock ?_ | refine xblock_r ?_) | (with_reducible intro hc; (try simp only [decide_eq_true_eq, decide_eq_false_iff_not, Bool.not_true, Bool.not_false, Bool.not_eq_true', Bool.not_eq_false', ne_eq, not_true, reduceCtorEq] at hc); (try (exfalso; omega))) | with_reducible (first | exact trivial | refine And.intro ?_ ?_ | exact rfl) | (refine inR_i64.mpr ?_; first | omega | (simp only [List.length_map]; omega)) | omega)
    all_goals (refine xfinIs (by first | exact .inl rfl | exact .inr rfl) rfl (by repeat' (first | exact trivial | exact rfl | refine And.intro ?_ ?_)) rfl ?_ rfl; first | (simp -implicitDefEqProofs only [go_sem, Int.reduceEq, Int.reduceLT, Int.reduceLE, Nat.reduceAdd, Nat.reduceSub, Nat.reduceMul, Nat.reduceEqDiff, Nat.reduceLeDiff, Nat.reducePow, ↓reduceIte, reduceCtorEq, stuckAt, stuckLen, Bool.false_eq_true, Bool.and_self, Bool.and_false, Bool.false_and, Bool.and_true, Int.add_zero, Int.add_sub_assoc] <;> (first | rfl | omega | exact decide_eq_decide.2 (by omega) | exact decide_eq_false (by omega) | exact decide_eq_true (by omega) | (symm; first | exact decide_eq_false (by omega) | exact decide_eq_true (by omega)) | (rw [Bool.eq_iff_iff]; simp only [Bool.not_eq_true', Bool.not_eq_false', Bool.and_eq_true, Bool.or_eq_true, decide_eq_true_eq, decide_eq_false_iff_not, reduceCtorEq, true_iff, iff_true, false_iff, iff_false]; omega))))

theorem bits16 (s : Int) (h : 0 ≤ s ∧ s ≤ 15) : decide (ibits .and .i64 s 1 ≠ 0) = bitL s ∧ decide (ibits .and .i64 s 2 ≠ 0) = bitR s ∧ decide (ibits .and .i64 s 4 ≠ 0) = bitT s ∧ decide (ibits .and .i64 s 8 ≠ 0) = bitB s := by
  obtain ⟨n, rfl⟩ := Int.eq_ofNat_of_zero_le h.1
  have hn : n < 16 := by omega
  have : ∀ m : Fin 16, decide (ibits .and .i64 (m.val : Int) 1 ≠ 0) = bitL m.val ∧ decide (ibits .and .i64 (m.val : Int) 2 ≠ 0) = bitR m.val ∧ decide (ibits .and .i64 (m.val : Int) 4 ≠ 0) = bitT m.val ∧ decide (ibits .and .i64 (m.val : Int) 8 ≠ 0) = bitB m.val := by decide
  exact this ⟨n, hn⟩
end Go.Proofs.YticgjepndfjafaaGreat

namespace Go.Proofs.YticgjepndfjafaaGreat
open Go.Fw
attribute [local irreducible] Go.Fw.aops Go.Fw.arun

/-- Sizes of lines that are used. -/
structure XOk (n : Nat) (xs : List Int) : Prop where
  len : xs.length = n
  hi : n ≤ 5
  bd : ∀ x ∈ xs, 0 ≤ x ∧ x ≤ 32768
  sum : sumI xs ≤ 32768
theorem XOk.nums {n : Nat} {xs : List Int} (h : XOk n xs) : NumsOk xs := ⟨by have := h.len; have := h.hi; omega, fun x hx => by have := h.bd x hx; omega⟩
theorem XOk.take {n : Nat} {xs : List Int} (h : XOk n xs) {k : Nat} : NumsOk (xs.take k) := ⟨by have := h.len; have := h.hi; simp; omega, fun x hx => by have := h.bd x (List.mem_of_mem_take hx); omega⟩
theorem XOk.slc {n : Nat} {xs : List Int} (h : XOk n xs) {a m : Nat} : NumsOk (slc xs a m) := ⟨by have := h.len; have := h.hi; simp [Go.Proofs.YticgjepndfjafaaGreat.slc]; omega, fun x hx => by have := h.bd x (slc_mem hx); omega⟩
theorem XOk.part {n : Nat} {xs : List Int} (h : XOk n xs) (a m : Nat) : 0 ≤ sumI (xs.take a) ∧ 0 ≤ sumI (Go.Proofs.YticgjepndfjafaaGreat.slc xs a m) ∧ sumI (xs.take a) + sumI (Go.Proofs.YticgjepndfjafaaGreat.slc xs a m) ≤ sumI xs := by
  have h0 : ∀ x ∈ xs, 0 ≤ x := fun x hx => (h.bd x hx).1
  have h1 := take_all h0 (a := a + m)
  rw [take_slc] at h1
  exact ⟨sumI_nonneg fun x hx => h0 x (List.mem_of_mem_take hx), sumI_nonneg fun x hx => h0 x (slc_mem hx), h1⟩
theorem GOk.xcol {g : Grid} (h : GOk g) {w : Int} (hw : 0 ≤ w ∧ w ≤ 16384) : XOk g.cols.length (colSizes g w) := by
  have := h.csz hw
  have hb := sum50 (requests_rok h.cols h.cspans) h.cols.hi
  exact ⟨this.len, h.cols.hi, this.bd, by have := this.most; omega⟩
theorem GOk.xrow {g : Grid} (h : GOk g) {w : Int} (hw : 0 ≤ w ∧ w ≤ 16384) : XOk g.rows.length (rowSizes g w) := by
  have := h.rsz hw
  have hb := sum50 (requests_rok h.rows h.rspans) h.rows.hi
  exact ⟨this.len, h.rows.hi, this.bd, by have := this.most; omega⟩

theorem inset_bd {r : Rect} {px py : Int} (hw : 0 ≤ r.w) (hh : 0 ≤ r.h) (hx : 0 ≤ px) (hy : 0 ≤ py) : r.x ≤ (inset r px py).x ∧ r.y ≤ (inset r px py).y ∧ 0 ≤ (inset r px py).w ∧ 0 ≤ (inset r px py).h ∧
    (inset r px py).x + (inset r px py).w ≤ r.x + r.w ∧ (inset r px py).y + (inset r px py).h ≤ r.y + r.h ∧ r.w - 2 * px ≤ (inset r px py).w ∧ r.h - 2 * py ≤ (inset r px py).h := by
  have e1 := tdiv2 hw
  have e2 := tdiv2 hh
  unfold inset
  dsimp only
  omega
theorem rects_take {g : Grid} {xs ys : List Int} {r : Rect} {k : Nat} (h : k < g.cells.length) : (g.cells.map (cellRect xs ys r)).take (k + 1) = (g.cells.map (cellRect xs ys r)).take k ++ [cellRect xs ys r g.cells[k]] := by
  rw [List.take_succ_eq_append_getElem (by simp; exact h)]; simp

set_option maxHeartbeats 4000000 in
theorem c_rectsI (g : Grid) (w h : Int) (hg : GOk g) (hw : 0 ≤ w ∧ w ≤ 16384) (hh : 0 ≤ h ∧ h ≤ 16384) : ACon Tryz.prog 61 [vGrid g, .d (.int .i64 w), .d (.int .i64 h)] [] (ORows encRect 4 (gridRectsIn g ⟨0, 0, w, h⟩)) := by
  have hX := hg.xcol hw
  have hY := hg.xrow hh
  have h8 := hg.hi
  have cx := ORows.data (c_lineSizesI _ _ w hg.cols hg.cspans hw)
  have cy := ORows.data (c_lineSizesI _ _ h hg.rows hg.rspans hh)
  have he : gridRectsIn g ⟨0, 0, w, h⟩ = g.cells.map (cellRect (colSizes g w) (rowSizes g h) ⟨0, 0, w, h⟩) := rfl
  rw [he]
  rw [show sizes g.cols (requests g.cols (colSpans g.cells)) w = colSizes g w from rfl] at cx
  rw [show sizes g.rows (requests g.rows (rowSpans g.cells)) h = rowSizes g h from rfl] at cy
  generalize colSizes g w = xs at *
  generalize rowSizes g h = ys at *
  have hml : (g.cells.map (cellRect xs ys ⟨0, 0, w, h⟩)).length = g.cells.length := by simp
  have hxl := hX.len
  have hyl := hY.len
  have hc5 := hX.hi
  have hr5 := hY.hi
  refine ACon.introW tok (nt := 126) Tryz.func61 rfl rfl rfl (by kernel_rfl) rfl ?_
  repeat' (first | ((with_reducible apply xsim); (first | ((with_reducible apply xlenM); exact rfl; exact rfl) | ((with_reducible apply xo); exact rfl) | with_reducible apply xend | ((with_reducible apply xbox); exact rfl; simp only [backV, backVs, backVs_mapd, backId, backO, List.map_cons, List.map_nil, List.getElem?_nil, List.length_cons, List.length_nil, Nat.reduceAdd, Nat.reduceSub, List.cons_append, List.nil_append, List.append_nil]) | ((with_reducible apply xcallIs); exact rfl; exact rfl; (first | exact c_spans g hg | exact cx | exact cy); exact rfl))) | ((with_reducible apply xaw); (first | ((with_reducible apply xstepS); refine AW.step tok rfl ?_) | with_reducible (first | refine AW.seq ?_ | refine AW.block ?_) | ((with_reducible apply xdraw (id := 2)); refine AW.draw (id := 2) (.q 0 (.q 1 (.q 2 (.q 3 (.q 4 (.q 5 (.q 6 (.q 7 (.q 8 (.q 9 (.q 10 (.q 11 (.fin))))))))))))) tok (by kernel_rfl) rfl (by kernel_rfl) ?_))) | ((with_reducible apply xarun); (first | ((with_reducible apply xrun_q); exact rfl; exact rfl; exact rfl) | ((with_reducible apply xrun_c); exact rfl; exact rfl; exact rfl; exact rfl; exact rfl; exact rfl; (first | exact c_spans g hg | exact cx | exact cy); exact rfl) | with_reducible apply xrun_f)) | with_reducible refine xthen ?_ | with_reducible exact trivial | exact Eq.refl true)
  all_goals
    refine AW.own 11 4 rfl ?_
    refine AW.loop (S := fun k : Nat => ⟨[(9, .d (.lst (xs.map encN))), (10, .d (.lst (ys.map encN))), (11, .msl 0 4 0 k), (35, .d (.lst (g.cells.map encCell))), (36, .d (.int .i64 g.cells.length)), (37, .d (.int .i64 k))], [.arr 4 (((g.cells.map (cellRect xs ys ⟨0, 0, w, h⟩)).take k).map encRect)], 126, 0⟩)
      (Pre := fun k => k ≤ g.cells.length) (μ := fun k => g.cells.length - k) 0 (Nat.zero_le _) ?_ ?_
    · (refine xwk (π := [1]) (by decide) rfl ?_ ?_; (first | simp -implicitDefEqProofs only [go_sem, Int.reduceEq, Int.reduceLT, Int.reduceLE, Nat.reduceAdd, Nat.reduceSub, Nat.reduceMul, Nat.reduceEqDiff, Nat.reduceLeDiff, Nat.reducePow, ↓reduceIte, reduceCtorEq, List.take_zero]); repeat' (first | exact renE_n | ((with_reducible apply renE_c); exact rfl; focus (first | (simp -implicitDefEqProofs only [go_sem, Int.reduceEq, Int.reduceLT, Int.reduceLE, Nat.reduceAdd, Nat.reduceSub, Nat.reduceMul, Nat.reduceEqDiff, Nat.reduceLeDiff, Nat.reducePow, ↓reduceIte, reduceCtorEq, List.take_zero]; done)))))
    intro k hk
    have htl : ((g.cells.map (cellRect xs ys ⟨0, 0, w, h⟩)).take k).length = k := by simp; omega
    by_cases hlt : k < g.cells.length
    · have hrow := at_map (f := encCell) hlt
      have hsu := rects_take (g := g) (xs := xs) (ys := ys) (r := ⟨0, 0, w, h⟩) hlt
      have hb := hg.ok _ (List.getElem_mem hlt)
      generalize g.cells[k] = c at *
      obtain ⟨hb1, hb2⟩ := hb
      obtain ⟨q1, q2, q3, q4⟩ := bits16 c.stick (by omega)
      have px := hX.part c.col.toNat c.manyCols.toNat
      have py := hY.part c.row.toNat c.manyRows.toNat
      have sx := hX.sum
      have sy := hY.sum
      have ex : (xs.drop c.col.toNat).take ((c.col + c.manyCols).toNat - c.col.toNat) = slc xs c.col.toNat c.manyCols.toNat := by rw [slc, show (c.col + c.manyCols).toNat - c.col.toNat = c.manyCols.toNat by omega]
      have ey : (ys.drop c.row.toNat).take ((c.row + c.manyRows).toNat - c.row.toNat) = slc ys c.row.toNat c.manyRows.toNat := by rw [slc, show (c.row + c.manyRows).toNat - c.row.toNat = c.manyRows.toNat by omega]
      have s1 := c_sum _ (hX.take (k := c.col.toNat))
      have s2 := c_sum _ (hY.take (k := c.row.toNat))
      have s3 : ACon Tryz.prog 84 [.d (.lst (((xs.drop c.col.toNat).take ((c.col + c.manyCols).toNat - c.col.toNat)).map encN))] [] (Is (.d (.int .i64 (sumI (slc xs c.col.toNat c.manyCols.toNat))))) := by rw [ex]; exact c_sum _ hX.slc
      have s4 : ACon Tryz.prog 84 [.d (.lst (((ys.drop c.row.toNat).take ((c.row + c.manyRows).toNat - c.row.toNat)).map encN))] [] (Is (.d (.int .i64 (sumI (slc ys c.row.toNat c.manyRows.toNat))))) := by rw [ey]; exact c_sum _ hY.slc
      have hq : inset (areaOf xs ys ⟨0, 0, w, h⟩ c) c.padX c.padY = inset ⟨sumI (xs.take c.col.toNat), sumI (ys.take c.row.toNat), sumI (slc xs c.col.toNat c.manyCols.toNat), sumI (slc ys c.row.toNat c.manyRows.toNat)⟩ c.padX c.padY := by simp only [areaOf, Int.zero_add]
      have hcr : cellRect xs ys ⟨0, 0, w, h⟩ c = cellIn (inset ⟨sumI (xs.take c.col.toNat), sumI (ys.take c.row.toNat), sumI (slc xs c.col.toNat c.manyCols.toNat), sumI (slc ys c.row.toNat c.manyRows.toNat)⟩ c.padX c.padY) c := by rw [cellRect, hq]
      rw [hcr] at hsu
      have s5 := c_insetI ⟨sumI (xs.take c.col.toNat), sumI (ys.take c.row.toNat), sumI (slc xs c.col.toNat c.manyCols.toNat), sumI (slc ys c.row.toNat c.manyRows.toNat)⟩ c.padX c.padY (by constructor <;> dsimp only <;> omega) px.2.1 py.2.1 (by omega) (by omega)
      have s6 := inset_bd (r := ⟨sumI (xs.take c.col.toNat), sumI (ys.take c.row.toNat), sumI (slc xs c.col.toNat c.manyCols.toNat), sumI (slc ys c.row.toNat c.manyRows.toNat)⟩) (px := c.padX) (py := c.padY) px.2.1 py.2.1 (by omega) (by omega)
      generalize inset ⟨sumI (xs.take c.col.toNat), sumI (ys.take c.row.toNat), sumI (slc xs c.col.toNat c.manyCols.toNat), sumI (slc ys c.row.toNat c.manyRows.toNat)⟩ c.padX c.padY = q at *
      dsimp only at s6
      have b1 := stuck_bd (room := q.w) (size := c.w) (a := bitL c.stick) (b := bitR c.stick) (by omega) (by omega)
      have b2 := stuck_bd (room := q.h) (size := c.h) (a := bitT c.stick) (b := bitB c.stick) (by omega) (by omega)
      have s7 : ACon Tryz.prog 85 [.d (.int .i64 q.w), .d (.int .i64 c.w), .d (.bool (decide (ibits .and .i64 c.stick 1 ≠ 0))), .d (.bool (decide (ibits .and .i64 c.stick 2 ≠ 0)))] [] (Is (.tup [.d (.int .i64 (stuckAt q.w c.w (bitL c.stick) (bitR c.stick))), .d (.int .i64 (stuckLen q.w c.w (bitL c.stick) (bitR c.stick)))])) := by rw [q1, q2]; exact c_stuckI _ _ _ _ (by omega) (by omega)
      have s8 : ACon Tryz.prog 85 [.d (.int .i64 q.h), .d (.int .i64 c.h), .d (.bool (decide (ibits .and .i64 c.stick 4 ≠ 0))), .d (.bool (decide (ibits .and .i64 c.stick 8 ≠ 0)))] [] (Is (.tup [.d (.int .i64 (stuckAt q.h c.h (bitT c.stick) (bitB c.stick))), .d (.int .i64 (stuckLen q.h c.h (bitT c.stick) (bitB c.stick)))])) := by rw [q3, q4]; exact c_stuckI _ _ _ _ (by omega) (by omega)
      simp only [cellIn] at hsu
      repeat' (first | ((with_reducible apply xsim); (first | ((with_reducible apply xbld); exact rfl; exact rfl; exact rfl; (try simp only [List.set_cons_zero, List.set_cons_succ])) | ((with_reducible apply xo); exact rfl) | ((with_reducible apply xst); exact rfl) | with_reducible apply xend | ((with_reducible apply xalloc); exact rfl; simp only [backV, backVs, backVs_mapd, backId, backO, List.map_cons, List.map_nil, List.getElem?_nil, List.length_cons, List.length_nil, Nat.reduceAdd, Nat.reduceSub, List.cons_append, List.nil_append, List.append_nil]) | ((with_reducible apply xbuild); exact rfl; exact rfl; exact rfl; exact rfl; exact rfl; simp only [backV, backVs, backVs_mapd, backId, backO, List.map_cons, List.map_nil, List.getElem?_nil, List.length_cons, List.length_nil, Nat.reduceAdd, Nat.reduceSub, List.cons_append, List.nil_append, List.append_nil]) | ((with_reducible apply xidxL); exact rfl; exact rfl; exact rfl; (first | exact hrow); omega; first | exact rfl | simp only [hsz]) | ((with_reducible apply xslcHi); exact rfl; exact rfl; exact rfl; exact (fun r hr => by obtain ⟨a, _, rfl⟩ := List.mem_map.1 hr; rfl); first | omega | (simp only [List.length_cons, List.length_nil]; omega)) | ((with_reducible apply xslcB); exact rfl; exact rfl; exact rfl; exact rfl; exact (fun r hr => by obtain ⟨a, _, rfl⟩ := List.mem_map.1 hr; rfl); first | omega | (simp only [List.length_cons, List.length_nil]; omega)) | ((with_reducible apply xcallIs); exact rfl; exact rfl; (first | exact s1 | exact s2 | exact s3 | exact s4 | exact s5 | exact s7 | exact s8); exact rfl) | simp -implicitDefEqProofs only [go_sem, Int.reduceEq, Int.reduceLT, Int.reduceLE, Nat.reduceAdd, Nat.reduceSub, Nat.reduceMul, Nat.reduceEqDiff, Nat.reduceLeDiff, Nat.reducePow, ↓reduceIte, reduceCtorEq, List.length_map, htl])) | ((with_reducible apply xaw); (first | ((with_reducible apply xstepS); refine AW.step tok rfl ?_) | ((with_reducible apply xstep); refine AW.region tok rfl ?_) | with_reducible (first | refine AW.seq ?_ | refine AW.block ?_ | refine AW.skip ?_) | ((with_reducible apply xcond); exact rfl) | ((with_reducible apply xdraw (id := 7)); refine AW.draw (id := 7) (.q 0 (.q 1 (.q 2 (.q 3 (.q 4 (.q 5 (.q 6 (.q 7 (.q 8 (.q 9 (.q 10 (.q 11 (.q 12 (.q 13 (.q 14 (.q 15 (.q 16 (.q 17 (.q 18 (.q 19 (.q 20 (.q 21 (.q 22 (.q 23 (.q 24 (.q 25 (.q 26 (.q 27 (.q 28 (.q 29 (.q 30 (.e 31 (.e 32 (.fin)))))))))))))))))))))))))))))))))) tok (by kernel_rfl) rfl (by kernel_rfl) ?_))) | ((with_reducible apply xarun); (first | ((with_reducible apply xrun_q); exact rfl; exact rfl; exact rfl) | ((with_reducible apply xrun_c); exact rfl; exact rfl; exact rfl; exact rfl; exact rfl; exact rfl; (first | exact s1 | exact s2 | exact s3 | exact s4 | exact s5 | exact s7 | exact s8); exact rfl) | ((with_reducible apply xrun_e); exact rfl) | with_reducible apply xrun_f)) | with_reducible refine xthen ?_ | (with_reducible intro hc; (try simp only [decide_eq_true_eq, decide_eq_false_iff_not, Bool.not_true, Bool.not_false, Bool.not_eq_true', Bool.not_eq_false', ne_eq, not_true, reduceCtorEq, List.length_map, htl] at hc); (try (exfalso; omega))) | with_reducible (first | exact trivial | refine And.intro ?_ ?_ | exact rfl) | exact Eq.refl true | (refine inR_i64.mpr ?_; first | omega | (simp only [List.length_map, List.length_map, htl]; omega)) | omega)
      all_goals refine round_end (k+1) hlt (by omega) (by (refine xwk (π := [4]) (by decide) rfl ?_ ?_; (first | simp -implicitDefEqProofs only [go_sem, Int.reduceEq, Int.reduceLT, Int.reduceLE, Nat.reduceAdd, Nat.reduceSub, Nat.reduceMul, Nat.reduceEqDiff, Nat.reduceLeDiff, Nat.reducePow, ↓reduceIte, reduceCtorEq, hsu, List.map_append]); repeat' (first | exact renE_n | ((with_reducible apply renE_c); exact rfl; focus (first | (simp -implicitDefEqProofs only [go_sem, Int.reduceEq, Int.reduceLT, Int.reduceLE, Nat.reduceAdd, Nat.reduceSub, Nat.reduceMul, Nat.reduceEqDiff, Nat.reduceLeDiff, Nat.reducePow, ↓reduceIte, reduceCtorEq, hsu, List.map_append]; done))))))
    · have hk' : k = g.cells.length := by omega
      subst hk'
      have hta : (g.cells.map (cellRect xs ys ⟨0, 0, w, h⟩)).take g.cells.length = g.cells.map (cellRect xs ys ⟨0, 0, w, h⟩) := by rw [← hml, List.take_length]
      repeat' (first | ((with_reducible apply xsim); (first | ((with_reducible apply xo); exact rfl) | with_reducible apply xend)) | ((with_reducible apply xaw); (first | ((with_reducible apply xstepS); refine AW.step tok rfl ?_) | with_reducible (first | refine AW.seq ?_ | refine AW.ret ?_ | refine AW.exit ?_) | ((with_reducible apply xcond); exact rfl))) | with_reducible (first | refine xthen ?_ | refine xthen_e ?_ | refine xblock_e ?_ | refine xround_e ?_) | (with_reducible intro hc; (try simp only [decide_eq_true_eq, decide_eq_false_iff_not, Bool.not_true, Bool.not_false, Bool.not_eq_true', Bool.not_eq_false', ne_eq, not_true, reduceCtorEq, List.length_map] at hc); (try (exfalso; omega))) | with_reducible (first | exact trivial | refine And.intro ?_ ?_ | exact rfl))
      (refine xfinOwn [0] (by first | exact .inl rfl | exact .inr rfl) rfl (by repeat' (first | exact trivial | exact rfl | refine And.intro ?_ ?_)) (by decide) rfl ?_ ?_ <;> simp -implicitDefEqProofs only [go_sem, Int.reduceEq, Int.reduceLT, Int.reduceLE, Nat.reduceAdd, Nat.reduceSub, Nat.reduceMul, Nat.reduceEqDiff, Nat.reduceLeDiff, Nat.reducePow, ↓reduceIte, reduceCtorEq, hta, hml])
end Go.Proofs.YticgjepndfjafaaGreat

namespace Go.Proofs.YticgjepndfjafaaGreat
open Go.Fw

instance : Inhabited Rect := ⟨⟨0, 0, 0, 0⟩⟩
theorem rect_ext {a b : Rect} (h1 : a.x = b.x) (h2 : a.y = b.y) (h3 : a.w = b.w) (h4 : a.h = b.h) : a = b := by
  cases a; cases b; simp_all
/-- A rectangle that is told from another one on. -/
def mv (r q : Rect) : Rect := ⟨r.x + q.x, r.y + q.y, q.w, q.h⟩
def org (r : Rect) : Rect := ⟨0, 0, r.w, r.h⟩
theorem mv_org (r : Rect) : mv r (org r) = r := rect_ext (by simp [mv, org]) (by simp [mv, org]) rfl rfl
theorem cut_mv (r q : Rect) (s n : Int) : cut (mv r q) s n = (mv r (cut q s n).1, mv r (cut q s n).2) := by
  unfold cut
  split
  · exact Prod.ext (rect_ext rfl rfl rfl rfl) (rect_ext rfl (by simp only [mv]; omega) rfl rfl)
  · split
    · exact Prod.ext (rect_ext rfl (by simp only [mv]; omega) rfl rfl) (rect_ext rfl rfl rfl rfl)
    · split
      · exact Prod.ext (rect_ext rfl rfl rfl rfl) (rect_ext (by simp only [mv]; omega) rfl rfl rfl)
      · exact Prod.ext (rect_ext (by simp only [mv]; omega) rfl rfl rfl) (rect_ext rfl rfl rfl rfl)
theorem parNeed_mv (xs : List Pack) (k : Nat) (p : Pack) (r q : Rect) : parNeed xs k p (mv r q) = parNeed xs k p q := rfl
theorem parTo_mv (xs : List Pack) (r : Rect) (q : Rect) : ∀ k, parTo xs (mv r q) k = ((parTo xs q k).1.map (mv r), mv r (parTo xs q k).2) := by
  intro k
  induction k with
  | zero => rfl
  | succ k ih =>
    simp only [parTo, parStep]
    cases hx : xs[k]? with
    | none => exact ih
    | some p =>
      dsimp only
      rw [ih]
      dsimp only
      rw [parNeed_mv, cut_mv, List.map_append]
      rfl
theorem inset_mv (r q : Rect) (a b : Int) : inset (mv r q) a b = mv r (inset q a b) :=
  rect_ext (by simp only [inset, mv]; omega) (by simp only [inset, mv]; omega) rfl rfl
theorem anchored_mv (r q : Rect) (a b c : Int) : anchored (mv r q) a b c = mv r (anchored q a b c) :=
  rect_ext (by simp only [anchored, mv]; omega) (by simp only [anchored, mv]; omega) rfl rfl
theorem settled_mv (p : Pack) (r q : Rect) : settled p (mv r q) = mv r (settled p q) := by
  unfold settled
  rw [inset_mv, anchored_mv]
  rfl
theorem packed_mv (xs : List Pack) (r q : Rect) : packed xs (mv r q) = (packed xs q).map (mv r) := by
  unfold packed parcels
  rw [parTo_mv]
  dsimp only
  rw [List.zipWith_map_right, List.map_zipWith]
  congr 1
  funext p q'
  exact settled_mv p r q'
theorem packed_org (xs : List Pack) (r : Rect) : packed xs r = (packed xs (org r)).map (mv r) := by
  have := packed_mv xs r (org r)
  rwa [mv_org] at this
theorem cellRect_mv (xs ys : List Int) (r : Rect) (c : Cell) : cellRect xs ys r c = mv r (cellRect xs ys (org r) c) := by
  have h : areaOf xs ys r c = mv r (areaOf xs ys (org r) c) := rect_ext (by simp [areaOf, mv, org]) (by simp [areaOf, mv, org]) rfl rfl
  unfold cellRect
  rw [h, inset_mv]
  exact rect_ext (by simp only [cellIn, mv]; omega) (by simp only [cellIn, mv]; omega) rfl rfl
theorem grid_org (g : Grid) (r : Rect) : gridRectsIn g r = (gridRectsIn g (org r)).map (mv r) := by
  unfold gridRectsIn
  rw [List.map_map]
  refine List.map_congr_left fun c _ => ?_
  exact cellRect_mv _ _ r c

def placed (p : Place) (r : Rect) : Rect :=
  ⟨r.x + (p.x + (r.w * p.relX).tdiv 1000 - (max 0 (p.w + (r.w * p.relW).tdiv 1000) * p.anchor.tmod 3).tdiv 2), r.y + (p.y + (r.h * p.relY).tdiv 1000 - (max 0 (p.h + (r.h * p.relH).tdiv 1000) * p.anchor.tdiv 3).tdiv 2),
    max 0 (p.w + (r.w * p.relW).tdiv 1000), max 0 (p.h + (r.h * p.relH).tdiv 1000)⟩
theorem placed_org (p : Place) (r : Rect) : placed p r = mv r (placed p (org r)) := rect_ext (by simp only [placed, mv, org]; omega) (by simp only [placed, mv, org]; omega) rfl rfl
theorem validPlace_iff {p : Place} (h : validPlace p = true) : -300 ≤ p.x ∧ p.x ≤ 300 ∧ -300 ≤ p.y ∧ p.y ≤ 300 ∧ 0 ≤ p.relX ∧ p.relX ≤ 1000 ∧ 0 ≤ p.relY ∧ p.relY ≤ 1000 ∧ -300 ≤ p.w ∧ p.w ≤ 300 ∧ -300 ≤ p.h ∧ p.h ≤ 300 ∧ 0 ≤ p.relW ∧ p.relW ≤ 1000 ∧ 0 ≤ p.relH ∧ p.relH ≤ 1000 ∧ 0 ≤ p.anchor ∧ p.anchor ≤ 8 := of_decide_eq_true h
theorem rel_bd {n r : Int} (hn : 0 ≤ n) (hr : 0 ≤ r ∧ r ≤ 1000) : 0 ≤ n * r ∧ n * r ≤ n * 1000 ∧ 0 ≤ (n * r).tdiv 1000 ∧ (n * r).tdiv 1000 ≤ n := by
  have h1 := Int.mul_nonneg hn hr.1
  have h2 := Int.mul_le_mul_of_nonneg_left hr.2 hn
  rw [Int.tdiv_eq_ediv_of_nonneg h1]
  refine ⟨h1, h2, Int.ediv_nonneg h1 (by omega), ?_⟩
  have := Int.ediv_le_ediv (show (0 : Int) < 1000 by omega) h2
  omega
theorem part_bd {n a : Int} (hn : 0 ≤ n) (ha : 0 ≤ a ∧ a ≤ 2) : 0 ≤ n * a ∧ n * a ≤ 2 * n ∧ 0 ≤ (n * a).tdiv 2 ∧ (n * a).tdiv 2 ≤ n := by
  have h1 := mul02 hn ha
  have := tdiv2 h1.1
  omega
theorem placed_bd {p : Place} {r : Rect} (hp : validPlace p = true) (hw : 0 ≤ r.w) (hh : 0 ≤ r.h) :
    0 ≤ (placed p r).w ∧ (placed p r).w ≤ r.w + 300 ∧ 0 ≤ (placed p r).h ∧ (placed p r).h ≤ r.h + 300 ∧
    r.x - (600 + r.w) ≤ (placed p r).x ∧ (placed p r).x ≤ r.x + 600 + r.w ∧ r.y - (600 + r.h) ≤ (placed p r).y ∧ (placed p r).y ≤ r.y + 600 + r.h := by
  have h := validPlace_iff hp
  have ha := anchor_bd (a := p.anchor) (by omega)
  have r1 := rel_bd (r := p.relX) hw (by omega)
  have r2 := rel_bd (r := p.relW) hw (by omega)
  have r3 := rel_bd (r := p.relY) hh (by omega)
  have r4 := rel_bd (r := p.relH) hh (by omega)
  have p1 := part_bd (n := max 0 (p.w + (r.w * p.relW).tdiv 1000)) (a := p.anchor.tmod 3) (by omega) (by omega)
  have p2 := part_bd (n := max 0 (p.h + (r.h * p.relH).tdiv 1000)) (a := p.anchor.tdiv 3) (by omega) (by omega)
  simp only [placed]
  omega

/-- The rectangles of kids in a rectangle. -/
def kidRects (t : List Node) (i : Nat) (r : Rect) : List Rect :=
  if (nodeAt t i).kind = 0 then packed (itemsOf t (kids t i)) r
  else if (nodeAt t i).kind = 1 then gridRectsIn (gridOf t i (kids t i)) r
  else (kids t i).map fun k => placed (nodeAt t k).place r
theorem kidRects_org (t : List Node) (i : Nat) (r : Rect) : kidRects t i r = (kidRects t i (org r)).map (mv r) := by
  unfold kidRects
  split
  · exact packed_org _ r
  · split
    · exact grid_org _ r
    · rw [List.map_map]
      exact List.map_congr_left fun k _ => placed_org _ r
def rectF (t : List Node) (w h : Int) : Nat → Nat → Rect
  | 0, _ => ⟨0, 0, w, h⟩
  | f + 1, k => if k = 0 then ⟨0, 0, w, h⟩ else ((kidRects t (nodeAt t k).parent.toNat (rectF t w h f (nodeAt t k).parent.toNat))[(kids t (nodeAt t k).parent.toNat).idxOf k]?).getD default
/-- The rectangle of a node. -/
def rectAt (t : List Node) (w h : Int) (k : Nat) : Rect := rectF t w h k k
theorem rectF_fuel {t : List Node} (h : TreeK t) {w v : Int} : ∀ (f g k : Nat), k < t.length → k ≤ f → k ≤ g → rectF t w v f k = rectF t w v g k := by
  intro f
  induction f with
  | zero =>
    intro g k hk h1 h2
    have : k = 0 := by omega
    subst this
    cases g <;> simp [rectF]
  | succ f ih =>
    intro g k hk h1 h2
    by_cases h0 : k = 0
    · subst h0
      cases g <;> simp [rectF]
    · cases g with
      | zero => omega
      | succ g =>
        simp only [rectF]
        rw [if_neg h0, if_neg h0]
        have hp := h.up k hk (by omega)
        rw [nodeAt_eq hk, ih g t[k].parent.toNat (by omega) (by omega) (by omega)]
theorem kids_nodup (t : List Node) (i : Nat) : (kids t i).Nodup := List.Pairwise.filter _ List.nodup_range
theorem packed_length {t : List Node} (h : TreeK t) {ks : List Nat} (hks : ∀ k ∈ ks, k < t.length) (r : Rect) : (packed (itemsOf t ks) r).length = ks.length := by
  have key : ∀ (xs : List Pack) (q : Rect) (m : Nat), m ≤ xs.length → (parTo xs q m).1.length = m := by
    intro xs q m
    induction m with
    | zero => intro _; rfl
    | succ m ih =>
      intro hm
      rw [parTo_succ (by omega)]
      simp [ih (by omega)]
  unfold packed parcels
  rw [List.length_zipWith, key _ _ _ (Nat.le_refl _)]
  simp [itemsOf]
theorem kidRects_len {t : List Node} (h : TreeK t) {i : Nat} (r : Rect) : (kidRects t i r).length = (kids t i).length := by
  unfold kidRects
  split
  · exact packed_length h (fun k hk => (h.kid hk).1) r
  · split
    · simp [gridRectsIn, gridOf, cellsOf]
    · simp
theorem rectAt_zero (t : List Node) (w h : Int) : rectAt t w h 0 = ⟨0, 0, w, h⟩ := rfl
theorem rectAt_kid {t : List Node} (h : TreeK t) {w v : Int} {i j : Nat} (hj : j < (kids t i).length) : rectAt t w v (kids t i)[j] = (kidRects t i (rectAt t w v i))[j]'(by rw [kidRects_len h]; exact hj) := by
  obtain ⟨h1, h2, h3⟩ := h.kid (List.getElem_mem hj)
  have e : (nodeAt t (kids t i)[j]).parent.toNat = i := by rw [nodeAt_eq h1]; omega
  obtain ⟨k, hk⟩ : ∃ k, (kids t i)[j] = k + 1 := ⟨(kids t i)[j] - 1, by omega⟩
  have : rectAt t w v (kids t i)[j] = rectF t w v (k + 1) (kids t i)[j] := by unfold rectAt; rw [hk]
  rw [this]
  simp only [rectF]
  rw [if_neg (by omega), e, rectF_fuel h k i i (by omega) (by omega) (Nat.le_refl _)]
  have hi : (kids t i).idxOf (kids t i)[j] = j := (kids_nodup t i).idxOf_getElem j hj
  rw [hi, List.getElem?_eq_getElem (by rw [kidRects_len h]; exact hj)]
  rfl
def layoutOf (t : List Node) (w h : Int) : List Rect := (List.range t.length).map (rectAt t w h)

/-- The rectangle lies in another one. -/
def InR (r q : Rect) : Prop := r.x ≤ q.x ∧ r.y ≤ q.y ∧ 0 ≤ q.w ∧ 0 ≤ q.h ∧ q.x + q.w ≤ r.x + r.w ∧ q.y + q.h ≤ r.y + r.h
theorem InR.trans {a b c : Rect} (h1 : InR a b) (h2 : InR b c) : InR a c := by unfold InR at *; omega
theorem inset_inR {r : Rect} {px py : Int} (hw : 0 ≤ r.w) (hh : 0 ≤ r.h) (hx : 0 ≤ px) (hy : 0 ≤ py) : InR r (inset r px py) := by
  have := inset_bd hw hh hx hy
  unfold InR; omega
theorem anchored_inR {r : Rect} {w h a : Int} (h3 : 0 ≤ r.w) (h4 : 0 ≤ r.h) (hw : 0 ≤ w) (hh : 0 ≤ h) (ha : 0 ≤ a ∧ a ≤ 8) : InR r (anchored r w h a) := by
  have hb := anchor_bd ha
  have m1 := mul02 (a := r.w - min w r.w) (b := a.tmod 3) (by omega) (by omega)
  have m2 := mul02 (a := r.h - min h r.h) (b := a.tdiv 3) (by omega) (by omega)
  have e1 := tdiv2 m1.1
  have e2 := tdiv2 m2.1
  unfold anchored InR
  dsimp only
  omega
theorem settled_inR {p : Pack} {q : Rect} (hp : packB p = true) (hw : 0 ≤ q.w) (hh : 0 ≤ q.h) : InR q (settled p q) := by
  have hv := packB_iff.1 hp
  have hi := inset_inR (px := p.padX) (py := p.padY) hw hh (by omega) (by omega)
  refine hi.trans ?_
  obtain ⟨h1, h2, h3, h4, h5, h6⟩ := hi
  unfold settled
  refine anchored_inR h3 h4 ?_ ?_ (by omega) <;> split <;> omega
theorem cut_inR {r : Rect} {side n : Int} (hw : 0 ≤ r.w) (hh : 0 ≤ r.h) (hn : 0 ≤ n) : InR r (cut r side n).1 ∧ InR r (cut r side n).2 := by
  unfold cut InR
  split
  · dsimp only; omega
  · split
    · dsimp only; omega
    · split
      · dsimp only; omega
      · dsimp only; omega
theorem parTo_inR {xs : List Pack} {r : Rect} (hl : xs.length ≤ 10) (hv : xs.all packB = true) (hr : RectIn r) : ∀ k, k ≤ xs.length → InR r (parTo xs r k).2 ∧ ∀ q ∈ (parTo xs r k).1, InR r q := by
  intro k
  induction k with
  | zero => intro _; obtain ⟨h1, h2, h3, h4, h5, h6⟩ := hr; exact ⟨by simp only [parTo, InR]; omega, fun q hq => by cases hq⟩
  | succ k ih =>
    intro hk
    obtain ⟨h2, h3⟩ := ih (by omega)
    have hi := (parTo_inv hl hv hr k (by omega)).2.1
    have hc := cut_inR (side := xs[k].side) hi.w hi.h (parNeed_bd (k := k) hl hv (by omega) hi).1
    rw [parTo_succ (by omega)]
    refine ⟨h2.trans hc.2, fun q hq => ?_⟩
    rcases List.mem_append.1 hq with hq | hq
    · exact h3 q hq
    · rw [List.mem_singleton.1 hq]; exact h2.trans hc.1
theorem packed_inR {xs : List Pack} {r : Rect} (hl : xs.length ≤ 10) (hv : xs.all packB = true) (hr : RectIn r) : ∀ q ∈ packed xs r, InR r q := by
  intro q hq
  have h1 := (parTo_inR hl hv hr xs.length (Nat.le_refl _)).2
  obtain ⟨j, hj, rfl⟩ := List.mem_iff_getElem.1 hq
  simp only [packed, List.getElem_zipWith]
  have hj' : j < xs.length ∧ j < (parcels xs r).1.length := by simp [packed] at hj; omega
  have h2 := h1 _ (List.getElem_mem hj'.2)
  exact h2.trans (settled_inR (List.all_eq_true.1 hv _ (List.getElem_mem hj'.1)) h2.2.2.1 h2.2.2.2.1)

theorem items_ok {t : List Node} (h : TreeK t) (i : Nat) : (itemsOf t (kids t i)).length ≤ 10 ∧ (itemsOf t (kids t i)).all packB = true := by
  have := kids_len t i t.length
  have := h.hi
  refine ⟨by simp only [itemsOf, List.length_map]; unfold kids; omega, ?_⟩
  unfold itemsOf
  rw [List.all_map, List.all_eq_true]
  intro k hk
  obtain ⟨a, _⟩ := h.kid hk
  exact packOf_ok h a (wish_le h a)
theorem grid_ok {t : List Node} (h : TreeK t) {i : Nat} (hi : i < t.length) (hk : (nodeAt t i).kind = 1) : GOk (gridOf t i (kids t i)) :=
  gridOf_ok h hi hk fun k hk => wish_le h (h.kid hk).1

/-- The bounds of a node's rectangle. -/
structure RB (k : Nat) (r : Rect) : Prop where
  w : 0 ≤ r.w ∧ r.w ≤ 1700 + 300 * k
  h : 0 ≤ r.h ∧ r.h ≤ 1700 + 300 * k
  x : -(16384 * (k : Int)) ≤ r.x ∧ r.x ≤ 16384 * k
  y : -(16384 * (k : Int)) ≤ r.y ∧ r.y ≤ 16384 * k
theorem RB.in {k : Nat} {r : Rect} (h : RB k r) (hk : k ≤ 10) : RectIn r := by
  obtain ⟨h1, h2, h3, h4⟩ := h
  constructor <;> omega
theorem cells_sum {t : List Node} (h : TreeK t) {i : Nat} (hi : i < t.length) (hk : (nodeAt t i).kind = 1) (hne : kids t i ≠ []) :
    sumI (requests (gridOf t i (kids t i)).cols (colSpans (gridOf t i (kids t i)).cells)) ≤ 1700 ∧ sumI (requests (gridOf t i (kids t i)).rows (rowSpans (gridOf t i (kids t i)).cells)) ≤ 1700 := by
  have hg := grid_ok h hi hk
  have r1 := requests_most hg.cols hg.cspans
  have r2 := requests_most hg.rows hg.rspans
  have hc := cnt_eq h hi
  have hle := cnt_le h hi
  have h10 := h.hi
  have hmul : sumI ((kids t i).map fun k => 170 * cnt t k) = 170 * sumI ((kids t i).map (cnt t)) := by
    generalize kids t i = ks
    induction ks with
    | nil => rfl
    | cons x xs ih => simp only [List.map_cons, sumI, ih]; omega
  have hcl := fun k hk' => cellOf_ok h hi (k := k) hk' hk (wish_le h (h.kid hk').1) _ rfl
  have m1 : sumI ((kids t i).map (Span.need ∘ colSpan ∘ fun k => cellOf (nodeAt t k) (wish t k))) ≤ sumI ((kids t i).map fun k => 170 * cnt t k) := sumI_mono fun k hk' => by
    have := hcl k hk'
    have := wish_bd h _ k (Nat.le_refl _) (h.kid hk').1
    unfold WishB at this
    simp only [Function.comp, colSpan, cellOf] at *; omega
  have m2 : sumI ((kids t i).map (Span.need ∘ rowSpan ∘ fun k => cellOf (nodeAt t k) (wish t k))) ≤ sumI ((kids t i).map fun k => 170 * cnt t k) := sumI_mono fun k hk' => by
    have := hcl k hk'
    have := wish_bd h _ k (Nat.le_refl _) (h.kid hk').1
    unfold WishB at this
    simp only [Function.comp, rowSpan, cellOf] at *; omega
  simp only [gridOf, cellsOf, colSpans, rowSpans, List.map_map] at r1 r2 ⊢
  omega
end Go.Proofs.YticgjepndfjafaaGreat

namespace Go.Proofs.YticgjepndfjafaaGreat
open Go.Fw

theorem grid_bd {t : List Node} (h : TreeK t) {i : Nat} (hi : i < t.length) (hk : (nodeAt t i).kind = 1) {r : Rect} (hw : 0 ≤ r.w ∧ r.w ≤ 16384) (hh : 0 ≤ r.h ∧ r.h ≤ 16384) :
    ∀ q ∈ gridRectsIn (gridOf t i (kids t i)) r, 0 ≤ q.w ∧ q.w ≤ max r.w 1700 ∧ 0 ≤ q.h ∧ q.h ≤ max r.h 1700 ∧ r.x ≤ q.x ∧ q.x ≤ r.x + max r.w 1700 ∧ r.y ≤ q.y ∧ q.y ≤ r.y + max r.h 1700 := by
  intro q hq
  have hg := grid_ok h hi hk
  obtain ⟨c, hc, rfl⟩ := List.mem_map.1 hq
  have hne : kids t i ≠ [] := by
    intro e
    simp only [gridOf, cellsOf, e, List.map_nil] at hc
    cases hc
  have hs := cells_sum h hi hk hne
  have hX := hg.xcol hw
  have hY := hg.xrow hh
  have sX := (hg.csz hw).most
  have sY := (hg.rsz hh).most
  have ok := hg.ok c hc
  have pX := hX.part c.col.toNat c.manyCols.toNat
  have pY := hY.part c.row.toNat c.manyRows.toNat
  have hb := inset_bd (r := areaOf (colSizes (gridOf t i (kids t i)) r.w) (rowSizes (gridOf t i (kids t i)) r.h) r c) (px := c.padX) (py := c.padY) (by simp only [areaOf]; omega) (by simp only [areaOf]; omega) (by omega) (by omega)
  simp only [areaOf] at hb
  have s1 := stuck_bd (room := (inset (areaOf (colSizes (gridOf t i (kids t i)) r.w) (rowSizes (gridOf t i (kids t i)) r.h) r c) c.padX c.padY).w) (size := c.w) (a := bitL c.stick) (b := bitR c.stick) (by simp only [areaOf]; omega) (by omega)
  have s2 := stuck_bd (room := (inset (areaOf (colSizes (gridOf t i (kids t i)) r.w) (rowSizes (gridOf t i (kids t i)) r.h) r c) c.padX c.padY).h) (size := c.h) (a := bitT c.stick) (b := bitB c.stick) (by simp only [areaOf]; omega) (by omega)
  simp only [cellRect, cellIn]
  simp only [areaOf] at s1 s2 ⊢
  omega

theorem kid_bd {t : List Node} (h : TreeK t) {i k : Nat} (hi : i < t.length) (hik : i < k) (hk : k < 11) {r : Rect} (hr : RB i r) : ∀ q ∈ kidRects t i r, RB k q := by
  have h10 := h.hi
  have hin := hr.in (by omega)
  obtain ⟨h1, h2, h3, h4⟩ := hr
  intro q hq
  unfold kidRects at hq
  split at hq
  · obtain ⟨a, b⟩ := items_ok h i
    have := packed_inR (by omega) b hin q hq
    unfold InR at this
    constructor <;> omega
  · split at hq
    · rename_i hk1
      have := grid_bd h hi hk1 (r := r) (by omega) (by omega) q hq
      constructor <;> omega
    · obtain ⟨m, hm, rfl⟩ := List.mem_map.1 hq
      have hm1 := (h.kid hm).1
      have hp := (nodeOk_iff (h.ok m hm1)).2.2.2.1
      rw [nodeAt_eq hm1]
      have := placed_bd (r := r) hp (by omega) (by omega)
      constructor <;> omega

theorem kid_ex {t : List Node} (h : TreeK t) {k : Nat} (hk : k < t.length) (h0 : k ≠ 0) : ∃ (i : Nat) (j : Nat) (hj : j < (kids t i).length), i < k ∧ (kids t i)[j] = k ∧ t[k].parent = (i : Int) := by
  have hp := h.up k hk (by omega)
  have hm : k ∈ kids t t[k].parent.toNat := mem_kids.2 ⟨hk, by rw [nodeAt_eq hk]; omega⟩
  obtain ⟨j, hj, e⟩ := List.mem_iff_getElem.1 hm
  exact ⟨t[k].parent.toNat, j, hj, by omega, e, by omega⟩
theorem rect_bd {t : List Node} (h : TreeK t) {w v : Int} (hw : 0 ≤ w ∧ w ≤ 400) (hv : 0 ≤ v ∧ v ≤ 400) : ∀ k, k < t.length → RB k (rectAt t w v k) := by
  intro k
  induction k using Nat.strongRecOn with
  | ind k ih =>
    intro hk
    by_cases h0 : k = 0
    · subst h0
      rw [rectAt_zero]
      constructor <;> dsimp only <;> omega
    · obtain ⟨i, j, hj, hik, e, _⟩ := kid_ex h hk h0
      have hr := rectAt_kid h (w := w) (v := v) hj
      rw [e] at hr
      rw [hr]
      have := h.hi
      exact kid_bd h (by omega) hik (by omega) (ih i hik (by omega)) _ (List.getElem_mem _)

/-- Rectangles of which some are laid out. -/
def lay (t : List Node) (w h : Int) (A : Nat → Bool) (out : List Rect) : List Rect := out.mapIdx fun j q => if A j = true then rectAt t w h j else q
section
variable {t : List Node} {w h : Int} {A B : Nat → Bool} {out : List Rect}
theorem lay_len : (lay t w h A out).length = out.length := by simp [lay]
theorem lay_at {k : Nat} (hk : k < out.length) (ha : A k = true) : (lay t w h A out)[k]? = some (rectAt t w h k) := by
  simp [lay, hk, ha]
theorem lay_set {k : Nat} : (lay t w h A out).set k (rectAt t w h k) = lay t w h (fun j => A j || decide (j = k)) out := by
  refine List.ext_getElem (by simp [lay]) fun i h1 h2 => ?_
  rw [List.getElem_set]
  simp only [lay, List.getElem_mapIdx]
  by_cases e : k = i
  · subst e
    simp
  · rw [if_neg e]
    have : ¬ i = k := fun e' => e e'.symm
    simp [this]
theorem lay_congr (hab : ∀ j, j < out.length → A j = B j) : lay t w h A out = lay t w h B out := by
  refine List.ext_getElem (by simp [lay]) fun i h1 h2 => ?_
  simp only [lay, List.getElem_mapIdx]
  rw [hab i (by simpa [lay] using h1)]
theorem lay_none (ha : ∀ j, j < out.length → A j = false) : lay t w h A out = out := by
  refine List.ext_getElem (by simp [lay]) fun i h1 h2 => ?_
  simp only [lay, List.getElem_mapIdx]
  rw [ha i h2]
  simp
theorem lay_lay : lay t w h B (lay t w h A out) = lay t w h (fun j => A j || B j) out := by
  refine List.ext_getElem (by simp [lay]) fun i h1 h2 => ?_
  simp only [lay, List.getElem_mapIdx]
  by_cases ha : A i = true <;> by_cases hb : B i = true <;> simp [ha, hb]
theorem lay_all (hl : out.length = t.length) (ha : ∀ j, j < t.length → A j = true) : lay t w h A out = layoutOf t w h := by
  refine List.ext_getElem (by simp [lay, layoutOf, hl]) fun i h1 h2 => ?_
  have hi : i < t.length := by simpa [layoutOf] using h2
  simp only [lay, List.getElem_mapIdx, layoutOf, List.getElem_map, List.getElem_range]
  rw [ha i hi]
  rfl
end
/-- A node is another one, or below it. -/
def belF (t : List Node) : Nat → Nat → Nat → Bool
  | 0, _, _ => false
  | f + 1, i, j => decide (j = i) || (kids t i).any fun k => belF t f k j
def bel (t : List Node) (i j : Nat) : Bool := belF t t.length i j
theorem belF_fuel {t : List Node} (h : TreeK t) {j : Nat} : ∀ (f g i : Nat), i < t.length → t.length - i ≤ f → t.length - i ≤ g → belF t f i j = belF t g i j := by
  intro f
  induction f with
  | zero => intro g i hi h1; omega
  | succ f ih =>
    intro g i hi h1 h2
    cases g with
    | zero => omega
    | succ g =>
      simp only [belF]
      congr 1
      rw [Bool.eq_iff_iff, List.any_eq_true, List.any_eq_true]
      refine exists_congr fun k => and_congr_right fun hk => ?_
      obtain ⟨a, b, _⟩ := h.kid hk
      rw [ih g k a (by omega) (by omega)]
theorem bel_eq {t : List Node} (h : TreeK t) {i j : Nat} (hi : i < t.length) : bel t i j = (decide (j = i) || (kids t i).any fun k => bel t k j) := by
  unfold bel
  obtain ⟨n, hn⟩ : ∃ n, t.length = n + 1 := ⟨t.length - 1, by omega⟩
  rw [hn]
  simp only [belF]
  congr 1
  rw [Bool.eq_iff_iff, List.any_eq_true, List.any_eq_true]
  refine exists_congr fun k => and_congr_right fun hk => ?_
  obtain ⟨a, b, _⟩ := h.kid hk
  rw [belF_fuel h n (n + 1) k a (by omega) (by omega)]
  rfl
theorem bel_kid {t : List Node} (h : TreeK t) {p j : Nat} (hj : j ∈ kids t p) : ∀ m i : Nat, t.length - i ≤ m → i < t.length → bel t i p = true → bel t i j = true := by
  intro m
  induction m with
  | zero => intro i h1 h2; omega
  | succ m ih =>
    intro i h1 h2 hb
    rw [bel_eq h h2, Bool.or_eq_true, decide_eq_true_eq, List.any_eq_true] at hb ⊢
    rcases hb with rfl | ⟨k, hk, hb⟩
    · refine .inr ⟨j, hj, ?_⟩
      obtain ⟨a, _, _⟩ := h.kid hj
      rw [bel_eq h a]
      simp
    · obtain ⟨a, b, _⟩ := h.kid hk
      exact .inr ⟨k, hk, ih k (by omega) a hb⟩
theorem bel_root {t : List Node} (h : TreeK t) : ∀ k, k < t.length → bel t 0 k = true := by
  intro k
  have hlo := h.lo
  induction k using Nat.strongRecOn with
  | ind k ih =>
    intro hk
    by_cases h0 : k = 0
    · subst h0
      rw [bel_eq h hk]; simp
    · obtain ⟨i, j, hj, hik, e, _⟩ := kid_ex h hk h0
      have := bel_kid h (List.getElem_mem hj) _ 0 (Nat.le_refl _) (by omega) (ih i hik (by omega))
      rwa [e] at this
end Go.Proofs.YticgjepndfjafaaGreat

namespace Go.Proofs.YticgjepndfjafaaGreat
open Go.Fw
attribute [local irreducible] Go.Fw.aops Go.Fw.arun

/-- A node's number. -/
@[go_sem] def encK (k : Nat) : List D := [.int .i64 (k : Int)]
theorem encK_map (ks : List Nat) : ks.map encK = (ks.map fun (k : Nat) => (k : Int)).map encN := by rw [List.map_map]; rfl

theorem isKid_iff {t : List Node} {i k : Nat} (hk : k < t.length) : isKid t i k = decide (t[k].parent = (i : Int)) := by rw [isKid, nodeAt_eq hk]

set_option maxRecDepth 8000 in
theorem c_AkidsI (t : List Node) (h : TreeK t) (i : Nat) : ACon Tryz.prog 57 [vTree t, .d (.int .i64 (i : Int))] [] (ORows encK 1 (kids t i)) := by
  have hlo := h.lo; have hhi := h.hi
  refine ACon.introW tok (nt := 26) Tryz.func57 rfl rfl rfl (by kernel_rfl) rfl ?_
  repeat' (first | ((with_reducible apply xsim); (first | ((with_reducible apply xlenM); exact rfl; exact rfl) | ((with_reducible apply xo); exact rfl) | with_reducible apply xend | ((with_reducible apply xbox); exact rfl; simp only [backV, backVs, backVs_mapd, backId, backO, List.map_cons, List.map_nil, List.getElem?_nil, List.length_cons, List.length_nil, Nat.reduceAdd, Nat.reduceSub, List.cons_append, List.nil_append, List.append_nil]))) | ((with_reducible apply xaw); (first | ((with_reducible apply xstepS); refine AW.step tok rfl ?_) | with_reducible (first | refine AW.seq ?_ | refine AW.block ?_))) | with_reducible exact trivial)
  refine AW.own 5 1 rfl ?_
  refine AW.loop (S := fun k : Nat => ⟨[(1, .d (.int .i64 (i : Int))), (5, .msl 0 1 0 (kidsTo t i k).length), (9, .d (.lst (t.map encNode))), (10, .d (.int .i64 t.length)), (11, .d (.int .i64 k))], [.arr 1 ((kidsTo t i k).map encK)], 26, 0⟩)
    (Pre := fun k => k ≤ t.length) (μ := fun k => t.length - k) 0 (Nat.zero_le _) ?_ ?_
  · (refine xwk (π := [1]) (by decide) rfl ?_ ?_; (first | simp -implicitDefEqProofs only [go_sem, Int.reduceEq, Int.reduceLT, Int.reduceLE, Nat.reduceAdd, Nat.reduceSub, Nat.reduceMul, Nat.reduceEqDiff, Nat.reduceLeDiff, Nat.reducePow, ↓reduceIte, reduceCtorEq, kidsTo, List.range_zero, List.filter_nil]); repeat' (first | exact renE_n | ((with_reducible apply renE_c); exact rfl; focus (first | (simp -implicitDefEqProofs only [go_sem, Int.reduceEq, Int.reduceLT, Int.reduceLE, Nat.reduceAdd, Nat.reduceSub, Nat.reduceMul, Nat.reduceEqDiff, Nat.reduceLeDiff, Nat.reducePow, ↓reduceIte, reduceCtorEq, kidsTo, List.range_zero, List.filter_nil]; done)))))
  intro k hk
  have hkl := kids_len t i k
  by_cases hlt : k < t.length
  · have hrow := at_map (f := encNode) hlt
    have hs := kidsTo_succ (t := t) (i := i) (k := k)
    rw [isKid_iff hlt] at hs
    by_cases hp : t[k].parent = (i : Int)
    · rw [if_pos (decide_eq_true hp)] at hs
      repeat' (first | ((with_reducible apply xsim); (first | ((with_reducible apply xo); exact rfl) | ((with_reducible apply xst); exact rfl) | with_reducible apply xend | ((with_reducible apply xalloc); exact rfl; simp only [backV, backVs, backVs_mapd, backId, backO, List.map_cons, List.map_nil, List.getElem?_nil, List.length_cons, List.length_nil, Nat.reduceAdd, Nat.reduceSub, List.cons_append, List.nil_append, List.append_nil]) | ((with_reducible apply xbuild); exact rfl; exact rfl; exact rfl; exact rfl; exact rfl; simp only [backV, backVs, backVs_mapd, backId, backO, List.map_cons, List.map_nil, List.getElem?_nil, List.length_cons, List.length_nil, Nat.reduceAdd, Nat.reduceSub, List.cons_append, List.nil_append, List.append_nil]) | ((with_reducible apply xidxL); exact rfl; exact rfl; exact rfl; (first | exact hrow); omega; first | exact rfl | simp only [hsz]) | simp -implicitDefEqProofs only [go_sem, Int.reduceEq, Int.reduceLT, Int.reduceLE, Nat.reduceAdd, Nat.reduceSub, Nat.reduceMul, Nat.reduceEqDiff, Nat.reduceLeDiff, Nat.reducePow, ↓reduceIte, reduceCtorEq, List.length_map])) | ((with_reducible apply xaw); (first | ((with_reducible apply xstepS); refine AW.step tok rfl ?_) | ((with_reducible apply xstep); refine AW.region tok rfl ?_) | with_reducible (first | refine AW.seq ?_ | refine AW.block ?_ | refine AW.skip ?_) | ((with_reducible apply xcond); exact rfl))) | with_reducible refine xthen ?_ | (with_reducible intro hc; (try simp only [decide_eq_true_eq, decide_eq_false_iff_not, Bool.not_true, Bool.not_false, Bool.not_eq_true', Bool.not_eq_false', ne_eq, not_true, reduceCtorEq, List.length_map] at hc); (try (exfalso; omega))) | with_reducible (first | exact trivial | refine And.intro ?_ ?_ | exact rfl) | exact Eq.refl true | (refine inR_i64.mpr ?_; first | omega | (simp only [List.length_map, List.length_map]; omega)) | omega)
      refine round_end (k+1) hlt (by omega) (by (refine xwk (π := [3]) (by decide) rfl ?_ ?_; (first | simp -implicitDefEqProofs only [go_sem, Int.reduceEq, Int.reduceLT, Int.reduceLE, Nat.reduceAdd, Nat.reduceSub, Nat.reduceMul, Nat.reduceEqDiff, Nat.reduceLeDiff, Nat.reducePow, ↓reduceIte, reduceCtorEq, hs, List.map_append, List.length_append]); repeat' (first | exact renE_n | ((with_reducible apply renE_c); exact rfl; focus (first | (simp -implicitDefEqProofs only [go_sem, Int.reduceEq, Int.reduceLT, Int.reduceLE, Nat.reduceAdd, Nat.reduceSub, Nat.reduceMul, Nat.reduceEqDiff, Nat.reduceLeDiff, Nat.reducePow, ↓reduceIte, reduceCtorEq, hs, List.map_append, List.length_append]; done))))))
    · rw [if_neg (by simpa using hp), List.append_nil] at hs
      repeat' (first | ((with_reducible apply xsim); (first | ((with_reducible apply xo); exact rfl) | ((with_reducible apply xst); exact rfl) | with_reducible apply xend | ((with_reducible apply xalloc); exact rfl; simp only [backV, backVs, backVs_mapd, backId, backO, List.map_cons, List.map_nil, List.getElem?_nil, List.length_cons, List.length_nil, Nat.reduceAdd, Nat.reduceSub, List.cons_append, List.nil_append, List.append_nil]) | ((with_reducible apply xidxL); exact rfl; exact rfl; exact rfl; (first | exact hrow); omega; first | exact rfl | simp only [hsz]))) | ((with_reducible apply xaw); (first | ((with_reducible apply xstepS); refine AW.step tok rfl ?_) | ((with_reducible apply xstep); refine AW.region tok rfl ?_) | with_reducible (first | refine AW.seq ?_ | refine AW.block ?_ | refine AW.skip ?_) | ((with_reducible apply xcond); exact rfl))) | with_reducible (first | refine xthen ?_ | refine xblock ?_) | (with_reducible intro hc; (try simp only [decide_eq_true_eq, decide_eq_false_iff_not, Bool.not_true, Bool.not_false, Bool.not_eq_true', Bool.not_eq_false', ne_eq, not_true, reduceCtorEq, List.length_map] at hc); (try (exfalso; omega))) | with_reducible (first | exact trivial | refine And.intro ?_ ?_ | exact rfl) | exact Eq.refl true | (refine inR_i64.mpr ?_; first | omega | (simp only [List.length_map, List.length_map]; omega)))
      refine round_end (k+1) hlt (by omega) (by (refine xwk (π := [0]) (by decide) rfl ?_ ?_; (first | simp -implicitDefEqProofs only [go_sem, Int.reduceEq, Int.reduceLT, Int.reduceLE, Nat.reduceAdd, Nat.reduceSub, Nat.reduceMul, Nat.reduceEqDiff, Nat.reduceLeDiff, Nat.reducePow, ↓reduceIte, reduceCtorEq, hs]); repeat' (first | exact renE_n | ((with_reducible apply renE_c); exact rfl; focus (first | (simp -implicitDefEqProofs only [go_sem, Int.reduceEq, Int.reduceLT, Int.reduceLE, Nat.reduceAdd, Nat.reduceSub, Nat.reduceMul, Nat.reduceEqDiff, Nat.reduceLeDiff, Nat.reducePow, ↓reduceIte, reduceCtorEq, hs]; done))))))
  have hk' : k = t.length := by omega
  subst hk'
  repeat' (first | ((with_reducible apply xsim); (first | ((with_reducible apply xo); exact rfl) | with_reducible apply xend)) | ((with_reducible apply xaw); (first | ((with_reducible apply xstepS); refine AW.step tok rfl ?_) | with_reducible (first | refine AW.seq ?_ | refine AW.ret ?_ | refine AW.exit ?_) | ((with_reducible apply xcond); exact rfl))) | with_reducible (first | refine xthen ?_ | refine xthen_e ?_ | refine xblock_e ?_ | refine xround_e ?_) | (with_reducible intro hc; (try simp only [decide_eq_true_eq, decide_eq_false_iff_not, Bool.not_true, Bool.not_false, Bool.not_eq_true', Bool.not_eq_false', ne_eq, not_true, reduceCtorEq, List.length_map] at hc); (try (exfalso; omega))) | with_reducible (first | exact trivial | refine And.intro ?_ ?_ | exact rfl))
  (refine xfinOwn [0] (by first | exact .inl rfl | exact .inr rfl) rfl (by repeat' (first | exact trivial | exact rfl | refine And.intro ?_ ?_)) (by decide) rfl ?_ ?_ <;> simp -implicitDefEqProofs only [go_sem, Int.reduceEq, Int.reduceLT, Int.reduceLE, Nat.reduceAdd, Nat.reduceSub, Nat.reduceMul, Nat.reduceEqDiff, Nat.reduceLeDiff, Nat.reducePow, ↓reduceIte, reduceCtorEq, kids])
theorem c_AkidsS (t : List Node) (h : TreeK t) (i : Nat) : ACon Tryz.prog 69 [vTree t, .d (.int .i64 (i : Int))] [] (ORows encK 1 (kids t i)) := by
  have hlo := h.lo; have hhi := h.hi
  refine ACon.introW tok (nt := 28) Tryz.func69 rfl rfl rfl (by kernel_rfl) rfl ?_
  repeat' (first | ((with_reducible apply xsim); (first | ((with_reducible apply xo); exact rfl) | with_reducible apply xend | ((with_reducible apply xbox); exact rfl; simp only [backV, backVs, backVs_mapd, backId, backO, List.map_cons, List.map_nil, List.getElem?_nil, List.length_cons, List.length_nil, Nat.reduceAdd, Nat.reduceSub, List.cons_append, List.nil_append, List.append_nil]) | ((with_reducible apply xbuild); exact rfl; exact rfl; exact rfl; exact rfl; exact rfl; simp only [backV, backVs, backVs_mapd, backId, backO, List.map_cons, List.map_nil, List.getElem?_nil, List.length_cons, List.length_nil, Nat.reduceAdd, Nat.reduceSub, List.cons_append, List.nil_append, List.append_nil]))) | ((with_reducible apply xaw); (first | ((with_reducible apply xstepS); refine AW.step tok rfl ?_) | with_reducible (first | refine AW.seq ?_ | refine AW.block ?_))) | with_reducible exact trivial)
  have h1 : kidsTo t i 1 = [] := by
    have e := kidsTo_succ (t := t) (i := i) (k := 0)
    have hr := h.root (by omega)
    rw [isKid_iff (by omega), if_neg (by simp only [hr, decide_eq_true_eq]; omega)] at e
    exact e
  refine AW.loop (S := fun k : Nat => ⟨[(1, .d (.int .i64 (i : Int))), (2, .oref 0 0), (5, .msl 1 1 0 (kidsTo t i k).length), (6, .d (.int .i64 k))], [.box [.d (.lst (t.map encNode))], .arr 1 ((kidsTo t i k).map encK)], 28, 0⟩)
    (Pre := fun k => k ≤ t.length) (μ := fun k => t.length - k) 1 hlo ?_ ?_
  · (refine xwk (π := [0, 1]) (by decide) rfl ?_ ?_; (first | simp -implicitDefEqProofs only [go_sem, Int.reduceEq, Int.reduceLT, Int.reduceLE, Nat.reduceAdd, Nat.reduceSub, Nat.reduceMul, Nat.reduceEqDiff, Nat.reduceLeDiff, Nat.reducePow, ↓reduceIte, reduceCtorEq, h1]); repeat' (first | exact renE_n | ((with_reducible apply renE_c); exact rfl; focus (first | (simp -implicitDefEqProofs only [go_sem, Int.reduceEq, Int.reduceLT, Int.reduceLE, Nat.reduceAdd, Nat.reduceSub, Nat.reduceMul, Nat.reduceEqDiff, Nat.reduceLeDiff, Nat.reducePow, ↓reduceIte, reduceCtorEq, h1]; done)))))
  intro k hk
  have hkl := kids_len t i k
  by_cases hlt : k < t.length
  · have hrow := at_map (f := encNode) hlt
    have hs := kidsTo_succ (t := t) (i := i) (k := k)
    rw [isKid_iff hlt] at hs
    by_cases hp : t[k].parent = (i : Int)
    · rw [if_pos (decide_eq_true hp)] at hs
      repeat' (first | ((with_reducible apply xsim); (first | ((with_reducible apply xlenM); exact rfl; exact rfl) | ((with_reducible apply xo); exact rfl) | with_reducible apply xend | ((with_reducible apply xbuild); exact rfl; exact rfl; exact rfl; exact rfl; exact rfl; simp only [backV, backVs, backVs_mapd, backId, backO, List.map_cons, List.map_nil, List.getElem?_nil, List.length_cons, List.length_nil, Nat.reduceAdd, Nat.reduceSub, List.cons_append, List.nil_append, List.append_nil]) | ((with_reducible apply xidxL); exact rfl; exact rfl; exact rfl; (first | exact hrow); omega; first | exact rfl | simp only [hsz]) | simp -implicitDefEqProofs only [go_sem, Int.reduceEq, Int.reduceLT, Int.reduceLE, Nat.reduceAdd, Nat.reduceSub, Nat.reduceMul, Nat.reduceEqDiff, Nat.reduceLeDiff, Nat.reducePow, ↓reduceIte, reduceCtorEq, List.length_map])) | ((with_reducible apply xaw); (first | ((with_reducible apply xstepS); refine AW.step tok rfl ?_) | ((with_reducible apply xstep); refine AW.region tok rfl ?_) | with_reducible (first | refine AW.seq ?_ | refine AW.block ?_ | refine AW.skip ?_) | ((with_reducible apply xcond); exact rfl))) | with_reducible refine xthen ?_ | (with_reducible intro hc; (try simp only [decide_eq_true_eq, decide_eq_false_iff_not, Bool.not_true, Bool.not_false, Bool.not_eq_true', Bool.not_eq_false', ne_eq, not_true, reduceCtorEq, List.length_map] at hc); (try (exfalso; omega))) | with_reducible (first | exact trivial | refine And.intro ?_ ?_ | exact rfl) | (refine inR_i64.mpr ?_; first | omega | (simp only [List.length_map, List.length_map]; omega)) | omega)
      refine round_end (k+1) hlt (by omega) (by (refine xwk (π := [0, 3]) (by decide) rfl ?_ ?_; (first | simp -implicitDefEqProofs only [go_sem, Int.reduceEq, Int.reduceLT, Int.reduceLE, Nat.reduceAdd, Nat.reduceSub, Nat.reduceMul, Nat.reduceEqDiff, Nat.reduceLeDiff, Nat.reducePow, ↓reduceIte, reduceCtorEq, hs, List.map_append, List.length_append]); repeat' (first | exact renE_n | ((with_reducible apply renE_c); exact rfl; focus (first | (simp -implicitDefEqProofs only [go_sem, Int.reduceEq, Int.reduceLT, Int.reduceLE, Nat.reduceAdd, Nat.reduceSub, Nat.reduceMul, Nat.reduceEqDiff, Nat.reduceLeDiff, Nat.reducePow, ↓reduceIte, reduceCtorEq, hs, List.map_append, List.length_append]; done))))))
    · rw [if_neg (by simpa using hp), List.append_nil] at hs
      repeat' (first | ((with_reducible apply xsim); (first | ((with_reducible apply xlenM); exact rfl; exact rfl) | ((with_reducible apply xo); exact rfl) | with_reducible apply xend | ((with_reducible apply xidxL); exact rfl; exact rfl; exact rfl; (first | exact hrow); omega; first | exact rfl | simp only [hsz]))) | ((with_reducible apply xaw); (first | ((with_reducible apply xstepS); refine AW.step tok rfl ?_) | ((with_reducible apply xstep); refine AW.region tok rfl ?_) | with_reducible (first | refine AW.seq ?_ | refine AW.block ?_ | refine AW.skip ?_) | ((with_reducible apply xcond); exact rfl))) | with_reducible (first | refine xthen ?_ | refine xblock ?_) | (with_reducible intro hc; (try simp only [decide_eq_true_eq, decide_eq_false_iff_not, Bool.not_true, Bool.not_false, Bool.not_eq_true', Bool.not_eq_false', ne_eq, not_true, reduceCtorEq, List.length_map] at hc); (try (exfalso; omega))) | with_reducible (first | exact trivial | refine And.intro ?_ ?_ | exact rfl) | (refine inR_i64.mpr ?_; first | omega | (simp only [List.length_map, List.length_map]; omega)))
      refine round_end (k+1) hlt (by omega) (by (refine xwk (π := [0, 1]) (by decide) rfl ?_ ?_; (first | simp -implicitDefEqProofs only [go_sem, Int.reduceEq, Int.reduceLT, Int.reduceLE, Nat.reduceAdd, Nat.reduceSub, Nat.reduceMul, Nat.reduceEqDiff, Nat.reduceLeDiff, Nat.reducePow, ↓reduceIte, reduceCtorEq, hs]); repeat' (first | exact renE_n | ((with_reducible apply renE_c); exact rfl; focus (first | (simp -implicitDefEqProofs only [go_sem, Int.reduceEq, Int.reduceLT, Int.reduceLE, Nat.reduceAdd, Nat.reduceSub, Nat.reduceMul, Nat.reduceEqDiff, Nat.reduceLeDiff, Nat.reducePow, ↓reduceIte, reduceCtorEq, hs]; done))))))
  have hk' : k = t.length := by omega
  subst hk'
  repeat' (first | ((with_reducible apply xsim); (first | ((with_reducible apply xlenM); exact rfl; exact rfl) | ((with_reducible apply xo); exact rfl) | with_reducible apply xend)) | ((with_reducible apply xaw); (first | ((with_reducible apply xstepS); refine AW.step tok rfl ?_) | with_reducible (first | refine AW.seq ?_ | refine AW.ret ?_ | refine AW.exit ?_) | ((with_reducible apply xcond); exact rfl))) | with_reducible (first | refine xthen ?_ | refine xthen_e ?_ | refine xblock_e ?_ | refine xround_e ?_) | (with_reducible intro hc; (try simp only [decide_eq_true_eq, decide_eq_false_iff_not, Bool.not_true, Bool.not_false, Bool.not_eq_true', Bool.not_eq_false', ne_eq, not_true, reduceCtorEq, List.length_map] at hc); (try (exfalso; omega))) | with_reducible (first | exact trivial | refine And.intro ?_ ?_ | exact rfl))
  (refine xfinOwn [1] (by first | exact .inl rfl | exact .inr rfl) rfl (by repeat' (first | exact trivial | exact rfl | refine And.intro ?_ ?_)) (by decide) rfl ?_ ?_ <;> simp -implicitDefEqProofs only [go_sem, Int.reduceEq, Int.reduceLT, Int.reduceLE, Nat.reduceAdd, Nat.reduceSub, Nat.reduceMul, Nat.reduceEqDiff, Nat.reduceLeDiff, Nat.reducePow, ↓reduceIte, reduceCtorEq, kids])
theorem c_kidsI (t : List Node) (h : TreeK t) (i : Nat) : ACon Tryz.prog 57 [vTree t, .d (.int .i64 (i : Int))] [] (Is (.d (.lst ((kids t i).map encK)))) := ORows.data (c_AkidsI t h i)
theorem c_kidsS (t : List Node) (h : TreeK t) (i : Nat) : ACon Tryz.prog 69 [vTree t, .d (.int .i64 (i : Int))] [] (Is (.d (.lst ((kids t i).map encK)))) := ORows.data (c_AkidsS t h i)

theorem items_take {t : List Node} {ks : List Nat} {k : Nat} (h : k < ks.length) : (itemsOf t ks).take (k + 1) = (itemsOf t ks).take k ++ [packOf (nodeAt t ks[k]) (wish t ks[k])] := by
  rw [List.take_succ_eq_append_getElem (by simp [itemsOf]; exact h)]; simp [itemsOf]
theorem cells_take {t : List Node} {ks : List Nat} {k : Nat} (h : k < ks.length) : (cellsOf t ks).take (k + 1) = (cellsOf t ks).take k ++ [cellOf (nodeAt t ks[k]) (wish t ks[k])] := by
  rw [List.take_succ_eq_append_getElem (by simp [cellsOf]; exact h)]; simp [cellsOf]
def wishV (s : Int × Int) : V := .tup [.d (.int .i64 s.1), .d (.int .i64 s.2)]

theorem c_packsI (t : List Node) (h : TreeK t) (ks : List Nat) (hks : ∀ k ∈ ks, k < t.length) (hl : ks.length ≤ 10) (hreq : ∀ k ∈ ks, ACon Tryz.prog 49 [vTree t, .d (.int .i64 (k : Int))] [] (Is (wishV (wish t k)))) :
    ACon Tryz.prog 59 [vTree t, .d (.lst (ks.map encK))] [] (ORows encPack 9 (itemsOf t ks)) := by
  have hhi := h.hi
  have hil : (itemsOf t ks).length = ks.length := by simp [itemsOf]
  refine ACon.introW tok (nt := 35) Tryz.func59 rfl rfl rfl (by kernel_rfl) rfl ?_
  repeat' (first | ((with_reducible apply xsim); (first | ((with_reducible apply xlenM); exact rfl; exact rfl) | ((with_reducible apply xo); exact rfl) | with_reducible apply xend | ((with_reducible apply xbox); exact rfl; simp only [backV, backVs, backVs_mapd, backId, backO, List.map_cons, List.map_nil, List.getElem?_nil, List.length_cons, List.length_nil, Nat.reduceAdd, Nat.reduceSub, List.cons_append, List.nil_append, List.append_nil]))) | ((with_reducible apply xaw); (first | ((with_reducible apply xstepS); refine AW.step tok rfl ?_) | with_reducible (first | refine AW.seq ?_ | refine AW.block ?_))) | with_reducible exact trivial)
  refine AW.own 5 9 rfl ?_
  refine AW.loop (S := fun k : Nat => ⟨[(2, .oref 0 0), (5, .msl 1 9 0 k), (9, .d (.lst (ks.map encK))), (10, .d (.int .i64 ks.length)), (11, .d (.int .i64 k))], [.box [.d (.lst (t.map encNode))], .arr 9 (((itemsOf t ks).take k).map encPack)], 35, 0⟩)
    (Pre := fun k => k ≤ ks.length) (μ := fun k => ks.length - k) 0 (Nat.zero_le _) ?_ ?_
  · (refine xwk (π := [0, 1]) (by decide) rfl ?_ ?_; (first | simp -implicitDefEqProofs only [go_sem, Int.reduceEq, Int.reduceLT, Int.reduceLE, Nat.reduceAdd, Nat.reduceSub, Nat.reduceMul, Nat.reduceEqDiff, Nat.reduceLeDiff, Nat.reducePow, ↓reduceIte, reduceCtorEq, List.take_zero]); repeat' (first | exact renE_n | ((with_reducible apply renE_c); exact rfl; focus (first | (simp -implicitDefEqProofs only [go_sem, Int.reduceEq, Int.reduceLT, Int.reduceLE, Nat.reduceAdd, Nat.reduceSub, Nat.reduceMul, Nat.reduceEqDiff, Nat.reduceLeDiff, Nat.reducePow, ↓reduceIte, reduceCtorEq, List.take_zero]; done)))))
  intro k hk
  have hc1 : ((itemsOf t ks).take k).length = k := by simp [hil]; omega
  by_cases hlt : k < ks.length
  · have hrow := at_map (f := encK) hlt
    have hm := hks _ (List.getElem_mem hlt)
    have hrow2 := at_map (f := encNode) hm
    have hs := items_take (t := t) hlt
    rw [nodeAt_eq hm] at hs
    have hr := hreq _ (List.getElem_mem hlt)
    repeat' (first | ((with_reducible apply xsim); (first | ((with_reducible apply xo); exact rfl) | ((with_reducible apply xst); exact rfl) | with_reducible apply xend | ((with_reducible apply xalloc); exact rfl; simp only [backV, backVs, backVs_mapd, backId, backO, List.map_cons, List.map_nil, List.getElem?_nil, List.length_cons, List.length_nil, Nat.reduceAdd, Nat.reduceSub, List.cons_append, List.nil_append, List.append_nil]) | ((with_reducible apply xbuild); exact rfl; exact rfl; exact rfl; exact rfl; exact rfl; simp only [backV, backVs, backVs_mapd, backId, backO, List.map_cons, List.map_nil, List.getElem?_nil, List.length_cons, List.length_nil, Nat.reduceAdd, Nat.reduceSub, List.cons_append, List.nil_append, List.append_nil]) | ((with_reducible apply xidxL); exact rfl; exact rfl; exact rfl; (first | exact hrow | exact hrow2); omega; first | exact rfl | simp only [hsz]) | ((with_reducible apply xcallIs); exact rfl; exact rfl; exact hr; exact rfl) | simp -implicitDefEqProofs only [go_sem, Int.reduceEq, Int.reduceLT, Int.reduceLE, Nat.reduceAdd, Nat.reduceSub, Nat.reduceMul, Nat.reduceEqDiff, Nat.reduceLeDiff, Nat.reducePow, ↓reduceIte, reduceCtorEq, List.length_map, hc1])) | ((with_reducible apply xaw); (first | ((with_reducible apply xstepS); refine AW.step tok rfl ?_) | ((with_reducible apply xstep); refine AW.region tok rfl ?_) | with_reducible (first | refine AW.seq ?_ | refine AW.block ?_ | refine AW.skip ?_) | ((with_reducible apply xcond); exact rfl))) | with_reducible refine xthen ?_ | (with_reducible intro hc; (try simp only [decide_eq_true_eq, decide_eq_false_iff_not, Bool.not_true, Bool.not_false, Bool.not_eq_true', Bool.not_eq_false', ne_eq, not_true, reduceCtorEq, List.length_map, hc1] at hc); (try (exfalso; omega))) | with_reducible (first | exact trivial | refine And.intro ?_ ?_ | exact rfl) | exact Eq.refl true | (refine inR_i64.mpr ?_; first | omega | (simp only [List.length_map, List.length_map, hc1]; omega)) | omega)
    refine round_end (k+1) hlt (by omega) (by (refine xwk (π := [0, 4]) (by decide) rfl ?_ ?_; (first | simp -implicitDefEqProofs only [go_sem, Int.reduceEq, Int.reduceLT, Int.reduceLE, Nat.reduceAdd, Nat.reduceSub, Nat.reduceMul, Nat.reduceEqDiff, Nat.reduceLeDiff, Nat.reducePow, ↓reduceIte, reduceCtorEq, hs, List.map_append, packOf]); repeat' (first | exact renE_n | ((with_reducible apply renE_c); exact rfl; focus (first | (simp -implicitDefEqProofs only [go_sem, Int.reduceEq, Int.reduceLT, Int.reduceLE, Nat.reduceAdd, Nat.reduceSub, Nat.reduceMul, Nat.reduceEqDiff, Nat.reduceLeDiff, Nat.reducePow, ↓reduceIte, reduceCtorEq, hs, List.map_append, packOf]; done))))))
  have hk' : k = ks.length := by omega
  subst hk'
  have t1 : (itemsOf t ks).take ks.length = itemsOf t ks := by rw [← hil, List.take_length]
  rw [t1]
  repeat' (first | ((with_reducible apply xsim); (first | ((with_reducible apply xo); exact rfl) | with_reducible apply xend)) | ((with_reducible apply xaw); (first | ((with_reducible apply xstepS); refine AW.step tok rfl ?_) | with_reducible (first | refine AW.seq ?_ | refine AW.ret ?_ | refine AW.exit ?_) | ((with_reducible apply xcond); exact rfl))) | with_reducible (first | refine xthen ?_ | refine xthen_e ?_ | refine xblock_e ?_ | refine xround_e ?_) | (with_reducible intro hc; (try simp only [decide_eq_true_eq, decide_eq_false_iff_not, Bool.not_true, Bool.not_false, Bool.not_eq_true', Bool.not_eq_false', ne_eq, not_true, reduceCtorEq, List.length_map] at hc); (try (exfalso; omega))) | with_reducible (first | exact trivial | refine And.intro ?_ ?_ | exact rfl))
  (refine xfinOwn [1] (by first | exact .inl rfl | exact .inr rfl) rfl (by repeat' (first | exact trivial | exact rfl | refine And.intro ?_ ?_)) (by decide) rfl ?_ ?_ <;> simp -implicitDefEqProofs only [go_sem, Int.reduceEq, Int.reduceLT, Int.reduceLE, Nat.reduceAdd, Nat.reduceSub, Nat.reduceMul, Nat.reduceEqDiff, Nat.reduceLeDiff, Nat.reducePow, ↓reduceIte, reduceCtorEq, hil])
theorem c_packsS (t : List Node) (h : TreeK t) (ks : List Nat) (hks : ∀ k ∈ ks, k < t.length) (hl : ks.length ≤ 10) (hreq : ∀ k ∈ ks, ACon Tryz.prog 64 [vTree t, .d (.int .i64 (k : Int))] [] (Is (wishV (wish t k)))) :
    ACon Tryz.prog 71 [vTree t, .d (.lst (ks.map encK))] [] (ORows encPack 9 (itemsOf t ks)) := by
  have hhi := h.hi
  have hil : (itemsOf t ks).length = ks.length := by simp [itemsOf]
  refine ACon.introW tok (nt := 44) Tryz.func71 rfl rfl rfl (by kernel_rfl) rfl ?_
  repeat' (first | ((with_reducible apply xsim); (first | ((with_reducible apply xo); exact rfl) | with_reducible apply xend | ((with_reducible apply xbox); exact rfl; simp only [backV, backVs, backVs_mapd, backId, backO, List.map_cons, List.map_nil, List.getElem?_nil, List.length_cons, List.length_nil, Nat.reduceAdd, Nat.reduceSub, List.cons_append, List.nil_append, List.append_nil]) | ((with_reducible apply xbuild); exact rfl; exact rfl; exact rfl; exact rfl; exact rfl; simp only [backV, backVs, backVs_mapd, backId, backO, List.map_cons, List.map_nil, List.getElem?_nil, List.length_cons, List.length_nil, Nat.reduceAdd, Nat.reduceSub, List.cons_append, List.nil_append, List.append_nil]))) | ((with_reducible apply xaw); (first | ((with_reducible apply xstepS); refine AW.step tok rfl ?_) | with_reducible (first | refine AW.seq ?_ | refine AW.block ?_))) | with_reducible exact trivial)
  refine AW.loop (S := fun k : Nat => ⟨[(1, .d (.lst (ks.map encK))), (2, .oref 0 0), (5, .msl 1 9 0 k), (6, .d (.int .i64 k))], [.box [.d (.lst (t.map encNode))], .arr 9 (((itemsOf t ks).take k).map encPack)], 44, 0⟩)
    (Pre := fun k => k ≤ ks.length) (μ := fun k => ks.length - k) 0 (Nat.zero_le _) ?_ ?_
  · (refine xwk (π := [0, 1]) (by decide) rfl ?_ ?_; (first | simp -implicitDefEqProofs only [go_sem, Int.reduceEq, Int.reduceLT, Int.reduceLE, Nat.reduceAdd, Nat.reduceSub, Nat.reduceMul, Nat.reduceEqDiff, Nat.reduceLeDiff, Nat.reducePow, ↓reduceIte, reduceCtorEq, List.take_zero]); repeat' (first | exact renE_n | ((with_reducible apply renE_c); exact rfl; focus (first | (simp -implicitDefEqProofs only [go_sem, Int.reduceEq, Int.reduceLT, Int.reduceLE, Nat.reduceAdd, Nat.reduceSub, Nat.reduceMul, Nat.reduceEqDiff, Nat.reduceLeDiff, Nat.reducePow, ↓reduceIte, reduceCtorEq, List.take_zero]; done)))))
  intro k hk
  have hc1 : ((itemsOf t ks).take k).length = k := by simp [hil]; omega
  by_cases hlt : k < ks.length
  · have hrow := at_map (f := encK) hlt
    have hm := hks _ (List.getElem_mem hlt)
    have hrow2 := at_map (f := encNode) hm
    have hs := items_take (t := t) hlt
    rw [nodeAt_eq hm] at hs
    have hr := hreq _ (List.getElem_mem hlt)
    repeat' (first | ((with_reducible apply xsim); (first | ((with_reducible apply xlenM); exact rfl; exact rfl) | ((with_reducible apply xo); exact rfl) | ((with_reducible apply xst); exact rfl) | with_reducible apply xend | ((with_reducible apply xalloc); exact rfl; simp only [backV, backVs, backVs_mapd, backId, backO, List.map_cons, List.map_nil, List.getElem?_nil, List.length_cons, List.length_nil, Nat.reduceAdd, Nat.reduceSub, List.cons_append, List.nil_append, List.append_nil]) | ((with_reducible apply xbuild); exact rfl; exact rfl; exact rfl; exact rfl; exact rfl; simp only [backV, backVs, backVs_mapd, backId, backO, List.map_cons, List.map_nil, List.getElem?_nil, List.length_cons, List.length_nil, Nat.reduceAdd, Nat.reduceSub, List.cons_append, List.nil_append, List.append_nil]) | ((with_reducible apply xidxL); exact rfl; exact rfl; exact rfl; (first | exact hrow | exact hrow2); omega; first | exact rfl | simp only [hsz]) | simp -implicitDefEqProofs only [go_sem, Int.reduceEq, Int.reduceLT, Int.reduceLE, Nat.reduceAdd, Nat.reduceSub, Nat.reduceMul, Nat.reduceEqDiff, Nat.reduceLeDiff, Nat.reducePow, ↓reduceIte, reduceCtorEq, List.length_map, hc1])) | ((with_reducible apply xaw); (first | ((with_reducible apply xstepS); refine AW.step tok rfl ?_) | ((with_reducible apply xstep); refine AW.region tok rfl ?_) | with_reducible (first | refine AW.seq ?_ | refine AW.block ?_ | refine AW.skip ?_) | ((with_reducible apply xcond); exact rfl) | ((with_reducible apply xdraw (id := 5)); refine AW.draw (id := 5) (.q 0 (.q 1 (.q 2 (.q 3 (.q 4 (.q 5 (.q 6 (.q 7 (.q 8 (.e 9 (.e 10 (.fin)))))))))))) tok (by kernel_rfl) rfl (by kernel_rfl) ?_) | ((with_reducible apply xdraw (id := 6)); refine AW.draw (id := 6) (.q 0 (.q 1 (.q 2 (.q 3 (.q 4 (.q 5 (.q 6 (.q 7 (.q 8 (.q 9 (.q 10 (.fin)))))))))))) tok (by kernel_rfl) rfl (by kernel_rfl) ?_))) | ((with_reducible apply xarun); (first | ((with_reducible apply xrun_q); exact rfl; exact rfl; exact rfl) | ((with_reducible apply xrun_c); exact rfl; exact rfl; exact rfl; exact rfl; exact rfl; exact rfl; exact hr; exact rfl) | ((with_reducible apply xrun_e); exact rfl) | with_reducible apply xrun_f)) | with_reducible refine xthen ?_ | (with_reducible intro hc; (try simp only [decide_eq_true_eq, decide_eq_false_iff_not, Bool.not_true, Bool.not_false, Bool.not_eq_true', Bool.not_eq_false', ne_eq, not_true, reduceCtorEq, List.length_map, hc1] at hc); (try (exfalso; omega))) | with_reducible (first | exact trivial | refine And.intro ?_ ?_ | exact rfl) | exact Eq.refl true | (refine inR_i64.mpr ?_; first | omega | (simp only [List.length_map, List.length_map, hc1]; omega)) | omega)
    refine round_end (k+1) hlt (by omega) (by (refine xwk (π := [0, 4]) (by decide) rfl ?_ ?_; (first | simp -implicitDefEqProofs only [go_sem, Int.reduceEq, Int.reduceLT, Int.reduceLE, Nat.reduceAdd, Nat.reduceSub, Nat.reduceMul, Nat.reduceEqDiff, Nat.reduceLeDiff, Nat.reducePow, ↓reduceIte, reduceCtorEq, hs, List.map_append, packOf]); repeat' (first | exact renE_n | ((with_reducible apply renE_c); exact rfl; focus (first | (simp -implicitDefEqProofs only [go_sem, Int.reduceEq, Int.reduceLT, Int.reduceLE, Nat.reduceAdd, Nat.reduceSub, Nat.reduceMul, Nat.reduceEqDiff, Nat.reduceLeDiff, Nat.reducePow, ↓reduceIte, reduceCtorEq, hs, List.map_append, packOf]; done))))))
  have hk' : k = ks.length := by omega
  subst hk'
  have t1 : (itemsOf t ks).take ks.length = itemsOf t ks := by rw [← hil, List.take_length]
  rw [t1]
  repeat' (first | ((with_reducible apply xsim); (first | ((with_reducible apply xlenM); exact rfl; exact rfl) | ((with_reducible apply xo); exact rfl) | with_reducible apply xend)) | ((with_reducible apply xaw); (first | ((with_reducible apply xstepS); refine AW.step tok rfl ?_) | with_reducible (first | refine AW.seq ?_ | refine AW.ret ?_ | refine AW.exit ?_) | ((with_reducible apply xcond); exact rfl))) | with_reducible (first | refine xthen ?_ | refine xthen_e ?_ | refine xblock_e ?_ | refine xround_e ?_) | (with_reducible intro hc; (try simp only [decide_eq_true_eq, decide_eq_false_iff_not, Bool.not_true, Bool.not_false, Bool.not_eq_true', Bool.not_eq_false', ne_eq, not_true, reduceCtorEq, List.length_map] at hc); (try (exfalso; omega))) | with_reducible (first | exact trivial | refine And.intro ?_ ?_ | exact rfl))
  (refine xfinOwn [1] (by first | exact .inl rfl | exact .inr rfl) rfl (by repeat' (first | exact trivial | exact rfl | refine And.intro ?_ ?_)) (by decide) rfl ?_ ?_ <;> simp -implicitDefEqProofs only [go_sem, Int.reduceEq, Int.reduceLT, Int.reduceLE, Nat.reduceAdd, Nat.reduceSub, Nat.reduceMul, Nat.reduceEqDiff, Nat.reduceLeDiff, Nat.reducePow, ↓reduceIte, reduceCtorEq, hil])

set_option maxRecDepth 8000 in
theorem c_gridI (t : List Node) (h : TreeK t) (i : Nat) (hi : i < t.length) (ks : List Nat) (hks : ∀ k ∈ ks, k < t.length) (hl : ks.length ≤ 10) (hreq : ∀ k ∈ ks, ACon Tryz.prog 49 [vTree t, .d (.int .i64 (k : Int))] [] (Is (wishV (wish t k)))) :
    ACon Tryz.prog 60 [vTree t, .d (.int .i64 (i : Int)), .d (.lst (ks.map encK))] [] (Is (vGrid (gridOf t i ks))) := by
  have hhi := h.hi
  have hil : (cellsOf t ks).length = ks.length := by simp [cellsOf]
  have hrow0 := at_map (f := encNode) hi
  have hni := nodeAt_eq hi
  refine ACon.introW tok (nt := 52) Tryz.func60 rfl rfl rfl (by kernel_rfl) rfl ?_
  repeat' (first | ((with_reducible apply xsim); (first | ((with_reducible apply xlenM); exact rfl; exact rfl) | ((with_reducible apply xo); exact rfl) | ((with_reducible apply xst); exact rfl) | with_reducible apply xend | ((with_reducible apply xalloc); exact rfl; simp only [backV, backVs, backVs_mapd, backId, backO, List.map_cons, List.map_nil, List.getElem?_nil, List.length_cons, List.length_nil, Nat.reduceAdd, Nat.reduceSub, List.cons_append, List.nil_append, List.append_nil]) | ((with_reducible apply xbox); exact rfl; simp only [backV, backVs, backVs_mapd, backId, backO, List.map_cons, List.map_nil, List.getElem?_nil, List.length_cons, List.length_nil, Nat.reduceAdd, Nat.reduceSub, List.cons_append, List.nil_append, List.append_nil]) | ((with_reducible apply xidxL); exact rfl; exact rfl; exact rfl; (first | exact hrow0); omega; first | exact rfl | simp only [hsz]))) | ((with_reducible apply xaw); (first | ((with_reducible apply xstepS); refine AW.step tok rfl ?_) | with_reducible (first | refine AW.seq ?_ | refine AW.block ?_) | ((with_reducible apply xdraw (id := 1)); refine AW.draw (id := 1) (.q 0 (.q 1 (.q 2 (.q 3 (.q 4 (.q 5 (.q 6 (.q 7 (.q 8 (.q 9 (.q 10 (.q 11 (.q 12 (.e 13 (.e 14 (.fin)))))))))))))))) tok (by kernel_rfl) rfl (by kernel_rfl) ?_))) | ((with_reducible apply xarun); (first | ((with_reducible apply xrun_q); exact rfl; exact rfl; exact rfl) | ((with_reducible apply xrun_e); exact rfl) | with_reducible apply xrun_f)) | with_reducible refine xthen ?_ | with_reducible (first | exact trivial | refine And.intro ?_ ?_) | exact Eq.refl true)
  refine AW.weak (Weak.ownBoxCell 2 9 2 rfl rfl) ?_
  refine AW.loop (S := fun k : Nat => ⟨[(3, .oref 0 0), (6, .oref 1 0), (7, .oref 2 0), (24, .d (.lst (ks.map encK))), (25, .d (.int .i64 ks.length)), (26, .d (.int .i64 k))], [.box [.d (.lst (t.map encNode))], .box [.nils, .nils, .nils],
      .box [.d (.lst (t[i].cols.map encLine)), .d (.lst (t[i].rows.map encLine)), .msl 3 9 0 k], .arr 9 (((cellsOf t ks).take k).map encCell)], 52, 0⟩)
    (Pre := fun k => k ≤ ks.length) (μ := fun k => ks.length - k) 0 (Nat.zero_le _) ?_ ?_
  · (refine xwk (π := [0, 1, 2, 3]) (by decide) rfl ?_ ?_; (first | simp -implicitDefEqProofs only [go_sem, Int.reduceEq, Int.reduceLT, Int.reduceLE, Nat.reduceAdd, Nat.reduceSub, Nat.reduceMul, Nat.reduceEqDiff, Nat.reduceLeDiff, Nat.reducePow, ↓reduceIte, reduceCtorEq, List.take_zero]); repeat' (first | exact renE_n | ((with_reducible apply renE_c); exact rfl; focus (first | (simp -implicitDefEqProofs only [go_sem, Int.reduceEq, Int.reduceLT, Int.reduceLE, Nat.reduceAdd, Nat.reduceSub, Nat.reduceMul, Nat.reduceEqDiff, Nat.reduceLeDiff, Nat.reducePow, ↓reduceIte, reduceCtorEq, List.take_zero]; done)))))
  intro k hk
  have hc1 : ((cellsOf t ks).take k).length = k := by simp [hil]; omega
  by_cases hlt : k < ks.length
  · have hrow := at_map (f := encK) hlt
    have hm := hks _ (List.getElem_mem hlt)
    have hrow2 := at_map (f := encNode) hm
    have hs := cells_take (t := t) hlt
    rw [nodeAt_eq hm] at hs
    have hr := hreq _ (List.getElem_mem hlt)
    repeat' (first | ((with_reducible apply xsim); (first | ((with_reducible apply xo); exact rfl) | ((with_reducible apply xst); exact rfl) | with_reducible apply xend | ((with_reducible apply xalloc); exact rfl; simp only [backV, backVs, backVs_mapd, backId, backO, List.map_cons, List.map_nil, List.getElem?_nil, List.length_cons, List.length_nil, Nat.reduceAdd, Nat.reduceSub, List.cons_append, List.nil_append, List.append_nil]) | ((with_reducible apply xbuild); exact rfl; exact rfl; exact rfl; exact rfl; exact rfl; simp only [backV, backVs, backVs_mapd, backId, backO, List.map_cons, List.map_nil, List.getElem?_nil, List.length_cons, List.length_nil, Nat.reduceAdd, Nat.reduceSub, List.cons_append, List.nil_append, List.append_nil]) | ((with_reducible apply xidxL); exact rfl; exact rfl; exact rfl; (first | exact hrow | exact hrow2); omega; first | exact rfl | simp only [hsz]) | ((with_reducible apply xcallIs); exact rfl; exact rfl; exact hr; exact rfl) | simp -implicitDefEqProofs only [go_sem, Int.reduceEq, Int.reduceLT, Int.reduceLE, Nat.reduceAdd, Nat.reduceSub, Nat.reduceMul, Nat.reduceEqDiff, Nat.reduceLeDiff, Nat.reducePow, ↓reduceIte, reduceCtorEq, List.length_map, hc1])) | ((with_reducible apply xaw); (first | ((with_reducible apply xstepS); refine AW.step tok rfl ?_) | ((with_reducible apply xstep); refine AW.region tok rfl ?_) | with_reducible (first | refine AW.seq ?_ | refine AW.block ?_ | refine AW.skip ?_) | ((with_reducible apply xcond); exact rfl))) | with_reducible refine xthen ?_ | (with_reducible intro hc; (try simp only [decide_eq_true_eq, decide_eq_false_iff_not, Bool.not_true, Bool.not_false, Bool.not_eq_true', Bool.not_eq_false', ne_eq, not_true, reduceCtorEq, List.length_map, hc1] at hc); (try (exfalso; omega))) | with_reducible (first | exact trivial | refine And.intro ?_ ?_ | exact rfl) | exact Eq.refl true | (refine inR_i64.mpr ?_; first | omega | (simp only [List.length_map, List.length_map, hc1]; omega)) | omega)
    refine round_end (k+1) hlt (by omega) (by (refine xwk (π := [0, 1, 2, 6]) (by decide) rfl ?_ ?_; (first | simp -implicitDefEqProofs only [go_sem, Int.reduceEq, Int.reduceLT, Int.reduceLE, Nat.reduceAdd, Nat.reduceSub, Nat.reduceMul, Nat.reduceEqDiff, Nat.reduceLeDiff, Nat.reducePow, ↓reduceIte, reduceCtorEq, hs, List.map_append, cellOf]); repeat' (first | exact renE_n | ((with_reducible apply renE_c); exact rfl; focus (first | (simp -implicitDefEqProofs only [go_sem, Int.reduceEq, Int.reduceLT, Int.reduceLE, Nat.reduceAdd, Nat.reduceSub, Nat.reduceMul, Nat.reduceEqDiff, Nat.reduceLeDiff, Nat.reducePow, ↓reduceIte, reduceCtorEq, hs, List.map_append, cellOf]; done))))))
  have hk' : k = ks.length := by omega
  subst hk'
  have t1 : (cellsOf t ks).take ks.length = cellsOf t ks := by rw [← hil, List.take_length]
  rw [t1]
  repeat' (first | ((with_reducible apply xsim); (first | ((with_reducible apply xo); exact rfl) | ((with_reducible apply xst); exact rfl) | with_reducible apply xend)) | ((with_reducible apply xaw); (first | ((with_reducible apply xstepS); refine AW.step tok rfl ?_) | with_reducible (first | refine AW.seq ?_ | refine AW.ret ?_ | refine AW.exit ?_) | ((with_reducible apply xcond); exact rfl))) | with_reducible (first | refine xthen ?_ | refine xthen_e ?_ | refine xblock_e ?_ | refine xround_e ?_) | (with_reducible intro hc; (try simp only [decide_eq_true_eq, decide_eq_false_iff_not, Bool.not_true, Bool.not_false, Bool.not_eq_true', Bool.not_eq_false', ne_eq, not_true, reduceCtorEq, List.length_map] at hc); (try (exfalso; omega))) | with_reducible (first | exact trivial | refine And.intro ?_ ?_ | exact rfl) | exact Eq.refl true)
  refine xfinW (Weak.freezeBoxCell 1 3 9 2 rfl rfl rfl (by simp [hil])) ?_
  (refine xfinIs (by first | exact .inl rfl | exact .inr rfl) rfl (by repeat' (first | exact trivial | exact rfl | refine And.intro ?_ ?_)) rfl ?_ rfl; first | (simp -implicitDefEqProofs only [go_sem, Int.reduceEq, Int.reduceLT, Int.reduceLE, Nat.reduceAdd, Nat.reduceSub, Nat.reduceMul, Nat.reduceEqDiff, Nat.reduceLeDiff, Nat.reducePow, ↓reduceIte, reduceCtorEq, gridOf, hni] <;> (first | rfl | omega | exact decide_eq_decide.2 (by omega) | exact decide_eq_false (by omega) | exact decide_eq_true (by omega) | (symm; first | exact decide_eq_false (by omega) | exact decide_eq_true (by omega)) | (rw [Bool.eq_iff_iff]; simp only [Bool.not_eq_true', Bool.not_eq_false', Bool.and_eq_true, Bool.or_eq_true, decide_eq_true_eq, decide_eq_false_iff_not, reduceCtorEq, true_iff, iff_true, false_iff, iff_false]; omega))))
set_option maxRecDepth 8000 in
theorem c_gridS (t : List Node) (h : TreeK t) (i : Nat) (hi : i < t.length) (ks : List Nat) (hks : ∀ k ∈ ks, k < t.length) (hl : ks.length ≤ 10) (hreq : ∀ k ∈ ks, ACon Tryz.prog 64 [vTree t, .d (.int .i64 (k : Int))] [] (Is (wishV (wish t k)))) :
    ACon Tryz.prog 73 [vTree t, .d (.int .i64 (i : Int)), .d (.lst (ks.map encK))] [] (Is (vGrid (gridOf t i ks))) := by
  have hhi := h.hi
  have hil : (cellsOf t ks).length = ks.length := by simp [cellsOf]
  have hrow0 := at_map (f := encNode) hi
  have hni := nodeAt_eq hi
  refine ACon.introW tok (nt := 60) Tryz.func73 rfl rfl rfl (by kernel_rfl) rfl ?_
  repeat' (first | ((with_reducible apply xsim); (first | ((with_reducible apply xo); exact rfl) | ((with_reducible apply xst); exact rfl) | with_reducible apply xend | ((with_reducible apply xalloc); exact rfl; simp only [backV, backVs, backVs_mapd, backId, backO, List.map_cons, List.map_nil, List.getElem?_nil, List.length_cons, List.length_nil, Nat.reduceAdd, Nat.reduceSub, List.cons_append, List.nil_append, List.append_nil]) | ((with_reducible apply xbox); exact rfl; simp only [backV, backVs, backVs_mapd, backId, backO, List.map_cons, List.map_nil, List.getElem?_nil, List.length_cons, List.length_nil, Nat.reduceAdd, Nat.reduceSub, List.cons_append, List.nil_append, List.append_nil]) | ((with_reducible apply xidxL); exact rfl; exact rfl; exact rfl; (first | exact hrow0); omega; first | exact rfl | simp only [hsz]))) | ((with_reducible apply xaw); (first | ((with_reducible apply xstepS); refine AW.step tok rfl ?_) | with_reducible (first | refine AW.seq ?_ | refine AW.block ?_) | ((with_reducible apply xdraw (id := 1)); refine AW.draw (id := 1) (.q 0 (.q 1 (.q 2 (.q 3 (.q 4 (.q 5 (.q 6 (.q 7 (.q 8 (.q 9 (.q 10 (.q 11 (.q 12 (.e 13 (.e 14 (.fin)))))))))))))))) tok (by kernel_rfl) rfl (by kernel_rfl) ?_))) | ((with_reducible apply xarun); (first | ((with_reducible apply xrun_q); exact rfl; exact rfl; exact rfl) | ((with_reducible apply xrun_e); exact rfl) | with_reducible apply xrun_f)) | with_reducible refine xthen ?_ | with_reducible (first | exact trivial | refine And.intro ?_ ?_) | exact Eq.refl true)
  refine AW.weak (Weak.ownBoxCell 2 9 2 rfl rfl) ?_
  refine AW.loop (S := fun k : Nat => ⟨[(2, .d (.lst (ks.map encK))), (3, .oref 0 0), (6, .oref 1 0), (7, .oref 2 0), (8, .d (.int .i64 k))], [.box [.d (.lst (t.map encNode))], .box [.nils, .nils, .nils],
      .box [.d (.lst (t[i].cols.map encLine)), .d (.lst (t[i].rows.map encLine)), .msl 3 9 0 k], .arr 9 (((cellsOf t ks).take k).map encCell)], 60, 0⟩)
    (Pre := fun k => k ≤ ks.length) (μ := fun k => ks.length - k) 0 (Nat.zero_le _) ?_ ?_
  · (refine xwk (π := [0, 1, 2, 3]) (by decide) rfl ?_ ?_; (first | simp -implicitDefEqProofs only [go_sem, Int.reduceEq, Int.reduceLT, Int.reduceLE, Nat.reduceAdd, Nat.reduceSub, Nat.reduceMul, Nat.reduceEqDiff, Nat.reduceLeDiff, Nat.reducePow, ↓reduceIte, reduceCtorEq, List.take_zero]); repeat' (first | exact renE_n | ((with_reducible apply renE_c); exact rfl; focus (first | (simp -implicitDefEqProofs only [go_sem, Int.reduceEq, Int.reduceLT, Int.reduceLE, Nat.reduceAdd, Nat.reduceSub, Nat.reduceMul, Nat.reduceEqDiff, Nat.reduceLeDiff, Nat.reducePow, ↓reduceIte, reduceCtorEq, List.take_zero]; done)))))
  intro k hk
  have hc1 : ((cellsOf t ks).take k).length = k := by simp [hil]; omega
  by_cases hlt : k < ks.length
  · have hrow := at_map (f := encK) hlt
    have hm := hks _ (List.getElem_mem hlt)
    have hrow2 := at_map (f := encNode) hm
    have hs := cells_take (t := t) hlt
    rw [nodeAt_eq hm] at hs
    have hr := hreq _ (List.getElem_mem hlt)
    repeat' (first | ((with_reducible apply xsim); (first | ((with_reducible apply xlenM); exact rfl; exact rfl) | ((with_reducible apply xo); exact rfl) | ((with_reducible apply xst); exact rfl) | with_reducible apply xend | ((with_reducible apply xalloc); exact rfl; simp only [backV, backVs, backVs_mapd, backId, backO, List.map_cons, List.map_nil, List.getElem?_nil, List.length_cons, List.length_nil, Nat.reduceAdd, Nat.reduceSub, List.cons_append, List.nil_append, List.append_nil]) | ((with_reducible apply xbuild); exact rfl; exact rfl; exact rfl; exact rfl; exact rfl; simp only [backV, backVs, backVs_mapd, backId, backO, List.map_cons, List.map_nil, List.getElem?_nil, List.length_cons, List.length_nil, Nat.reduceAdd, Nat.reduceSub, List.cons_append, List.nil_append, List.append_nil]) | ((with_reducible apply xidxL); exact rfl; exact rfl; exact rfl; (first | exact hrow | exact hrow2); omega; first | exact rfl | simp only [hsz]) | simp -implicitDefEqProofs only [go_sem, Int.reduceEq, Int.reduceLT, Int.reduceLE, Nat.reduceAdd, Nat.reduceSub, Nat.reduceMul, Nat.reduceEqDiff, Nat.reduceLeDiff, Nat.reducePow, ↓reduceIte, reduceCtorEq, List.length_map, hc1])) | ((with_reducible apply xaw); (first | ((with_reducible apply xstepS); refine AW.step tok rfl ?_) | ((with_reducible apply xstep); refine AW.region tok rfl ?_) | with_reducible (first | refine AW.seq ?_ | refine AW.block ?_ | refine AW.skip ?_) | ((with_reducible apply xcond); exact rfl) | ((with_reducible apply xdraw (id := 5)); refine AW.draw (id := 5) (.q 0 (.q 1 (.q 2 (.q 3 (.q 4 (.q 5 (.q 6 (.q 7 (.q 8 (.e 9 (.e 10 (.fin)))))))))))) tok (by kernel_rfl) rfl (by kernel_rfl) ?_) | ((with_reducible apply xdraw (id := 6)); refine AW.draw (id := 6) (.q 0 (.q 1 (.q 2 (.q 3 (.q 4 (.q 5 (.q 6 (.q 7 (.q 8 (.q 9 (.q 10 (.fin)))))))))))) tok (by kernel_rfl) rfl (by kernel_rfl) ?_))) | ((with_reducible apply xarun); (first | ((with_reducible apply xrun_q); exact rfl; exact rfl; exact rfl) | ((with_reducible apply xrun_c); exact rfl; exact rfl; exact rfl; exact rfl; exact rfl; exact rfl; exact hr; exact rfl) | ((with_reducible apply xrun_e); exact rfl) | with_reducible apply xrun_f)) | with_reducible refine xthen ?_ | (with_reducible intro hc; (try simp only [decide_eq_true_eq, decide_eq_false_iff_not, Bool.not_true, Bool.not_false, Bool.not_eq_true', Bool.not_eq_false', ne_eq, not_true, reduceCtorEq, List.length_map, hc1] at hc); (try (exfalso; omega))) | with_reducible (first | exact trivial | refine And.intro ?_ ?_ | exact rfl) | exact Eq.refl true | (refine inR_i64.mpr ?_; first | omega | (simp only [List.length_map, List.length_map, hc1]; omega)) | omega)
    refine round_end (k+1) hlt (by omega) (by (refine xwk (π := [0, 1, 2, 6]) (by decide) rfl ?_ ?_; (first | simp -implicitDefEqProofs only [go_sem, Int.reduceEq, Int.reduceLT, Int.reduceLE, Nat.reduceAdd, Nat.reduceSub, Nat.reduceMul, Nat.reduceEqDiff, Nat.reduceLeDiff, Nat.reducePow, ↓reduceIte, reduceCtorEq, hs, List.map_append, cellOf]); repeat' (first | exact renE_n | ((with_reducible apply renE_c); exact rfl; focus (first | (simp -implicitDefEqProofs only [go_sem, Int.reduceEq, Int.reduceLT, Int.reduceLE, Nat.reduceAdd, Nat.reduceSub, Nat.reduceMul, Nat.reduceEqDiff, Nat.reduceLeDiff, Nat.reducePow, ↓reduceIte, reduceCtorEq, hs, List.map_append, cellOf]; done))))))
  have hk' : k = ks.length := by omega
  subst hk'
  have t1 : (cellsOf t ks).take ks.length = cellsOf t ks := by rw [← hil, List.take_length]
  rw [t1]
  repeat' (first | ((with_reducible apply xsim); (first | ((with_reducible apply xlenM); exact rfl; exact rfl) | ((with_reducible apply xo); exact rfl) | ((with_reducible apply xst); exact rfl) | with_reducible apply xend)) | ((with_reducible apply xaw); (first | ((with_reducible apply xstepS); refine AW.step tok rfl ?_) | with_reducible (first | refine AW.seq ?_ | refine AW.ret ?_ | refine AW.exit ?_) | ((with_reducible apply xcond); exact rfl))) | with_reducible (first | refine xthen ?_ | refine xthen_e ?_ | refine xblock_e ?_ | refine xround_e ?_) | (with_reducible intro hc; (try simp only [decide_eq_true_eq, decide_eq_false_iff_not, Bool.not_true, Bool.not_false, Bool.not_eq_true', Bool.not_eq_false', ne_eq, not_true, reduceCtorEq, List.length_map] at hc); (try (exfalso; omega))) | with_reducible (first | exact trivial | refine And.intro ?_ ?_ | exact rfl) | exact Eq.refl true)
  refine xfinW (Weak.freezeBoxCell 1 3 9 2 rfl rfl rfl (by simp [hil])) ?_
  (refine xfinIs (by first | exact .inl rfl | exact .inr rfl) rfl (by repeat' (first | exact trivial | exact rfl | refine And.intro ?_ ?_)) rfl ?_ rfl; first | (simp -implicitDefEqProofs only [go_sem, Int.reduceEq, Int.reduceLT, Int.reduceLE, Nat.reduceAdd, Nat.reduceSub, Nat.reduceMul, Nat.reduceEqDiff, Nat.reduceLeDiff, Nat.reducePow, ↓reduceIte, reduceCtorEq, gridOf, hni] <;> (first | rfl | omega | exact decide_eq_decide.2 (by omega) | exact decide_eq_false (by omega) | exact decide_eq_true (by omega) | (symm; first | exact decide_eq_false (by omega) | exact decide_eq_true (by omega)) | (rw [Bool.eq_iff_iff]; simp only [Bool.not_eq_true', Bool.not_eq_false', Bool.and_eq_true, Bool.or_eq_true, decide_eq_true_eq, decide_eq_false_iff_not, reduceCtorEq, true_iff, iff_true, false_iff, iff_false]; omega))))
end Go.Proofs.YticgjepndfjafaaGreat

namespace Go.Proofs.YticgjepndfjafaaGreat
open Go.Fw
attribute [local irreducible] Go.Fw.aops Go.Fw.arun

set_option maxHeartbeats 4000000 in
set_option maxRecDepth 8000 in
theorem c_validNode (t : List Node) (hL : TreeL t) (k : Nat) (hlt : k < t.length) : ACon Tryz.prog 65 [vTree t, .d (.int .i64 k)] [] (Is (.d (.bool (nodeOk t[k] && upOk t k t[k])))) := by
  obtain ⟨hL1, hL⟩ := hL
  have hrow := at_map (f := encNode) hlt
  refine ACon.introW tok (nt := 126) Tryz.func65 rfl rfl rfl (by kernel_rfl) rfl ?_
  by_cases hkd : t[k].kind = 1
  all_goals
    by_cases h0 : k = 0
    · subst h0
      have hu : upOk t 0 t[0] = decide (t[0].parent = -1) := rfl
      generalize hup : upOk t 0 t[0] = up at hu
      repeat' (first | ((with_reducible apply xsim); (first | ((with_reducible apply xlenM); exact rfl; exact rfl) | ((with_reducible apply xo); exact rfl) | ((with_reducible apply xst); exact rfl) | with_reducible apply xend | ((with_reducible apply xguardTS); exact rfl; exact rfl) | ((with_reducible apply xguardS); exact rfl; exact rfl) | ((with_reducible apply xalloc); exact rfl; simp only [backV, backVs, backVs_mapd, backId, backO, List.map_cons, List.map_nil, List.getElem?_nil, List.length_cons, List.length_nil, Nat.reduceAdd, Nat.reduceSub, List.cons_append, List.nil_append, List.append_nil]) | ((with_reducible apply xbox); exact rfl; simp only [backV, backVs, backVs_mapd, backId, backO, List.map_cons, List.map_nil, List.getElem?_nil, List.length_cons, List.length_nil, Nat.reduceAdd, Nat.reduceSub, List.cons_append, List.nil_append, List.append_nil]) | ((with_reducible apply xidxL); exact rfl; exact rfl; exact rfl; (first | exact hrow); omega; first | exact rfl | simp only [hsz]) | ((with_reducible apply xcallIs); exact rfl; exact rfl; (first | exact c_inRange _ _ _ | exact c_validPack _ | exact c_validPlace _ | exact c_validLines _ (hL _ hlt).1 | exact c_validLines _ (hL _ hlt).2 | exact c_validCellN _ _ _ (hL _ _).1 (hL _ _).2); exact rfl))) | ((with_reducible apply xaw); (first | ((with_reducible apply xstepS); refine AW.step tok rfl ?_) | with_reducible (first | refine AW.seq ?_ | refine AW.skip ?_ | refine AW.ret ?_) | ((with_reducible apply xcond); exact rfl))) | with_reducible (first | refine xthen ?_ | refine xthen_r ?_) | (with_reducible intro hc; (try simp only [decide_eq_true_eq, decide_eq_false_iff_not, Bool.not_true, Bool.not_false, Bool.not_eq_true', Bool.not_eq_false', ne_eq, not_true, reduceCtorEq, List.length_map] at hc); (try (exfalso; omega))) | with_reducible (first | exact trivial | refine And.intro ?_ ?_ | exact rfl) | exact Eq.refl true)
      all_goals clear hrow hL
      all_goals (refine xfinIs (by first | exact .inl rfl | exact .inr rfl) rfl (by repeat' (first | exact trivial | exact rfl | refine And.intro ?_ ?_)) rfl ?_ rfl; simp only [V.d.injEq, D.bool.injEq, D.int.injEq]; first | rfl | (simp_all [nodeOk, hup, Int.natCast_pos, List.length_pos_iff]; done) | (simp_all [nodeOk, hup, Int.natCast_pos, List.length_pos_iff]; omega))
    by_cases hr : 0 ≤ t[k].parent ∧ t[k].parent ≤ (k : Int) - 1
    · have hu := upOk_in (by omega) hlt hr
      have hrow2 := node_at (xs := t) (i := t[k].parent) (by omega)
      generalize hup : upOk t k t[k] = up at hu
      repeat' (first | ((with_reducible apply xsim); (first | ((with_reducible apply xlenM); exact rfl; exact rfl) | ((with_reducible apply xo); exact rfl) | ((with_reducible apply xst); exact rfl) | with_reducible apply xend | ((with_reducible apply xguardTS); exact rfl; exact rfl) | ((with_reducible apply xguardS); exact rfl; exact rfl) | ((with_reducible apply xalloc); exact rfl; simp only [backV, backVs, backVs_mapd, backId, backO, List.map_cons, List.map_nil, List.getElem?_nil, List.length_cons, List.length_nil, Nat.reduceAdd, Nat.reduceSub, List.cons_append, List.nil_append, List.append_nil]) | ((with_reducible apply xbox); exact rfl; simp only [backV, backVs, backVs_mapd, backId, backO, List.map_cons, List.map_nil, List.getElem?_nil, List.length_cons, List.length_nil, Nat.reduceAdd, Nat.reduceSub, List.cons_append, List.nil_append, List.append_nil]) | ((with_reducible apply xidxL); exact rfl; exact rfl; exact rfl; (first | exact hrow | exact hrow2); omega; first | exact rfl | simp only [hsz]) | ((with_reducible apply xcallIs); exact rfl; exact rfl; (first | exact c_inRange _ _ _ | exact c_validPack _ | exact c_validPlace _ | exact c_validLines _ (hL _ hlt).1 | exact c_validLines _ (hL _ hlt).2 | exact c_validCellN _ _ _ (hL _ _).1 (hL _ _).2); exact rfl))) | ((with_reducible apply xaw); (first | ((with_reducible apply xstepS); refine AW.step tok rfl ?_) | with_reducible (first | refine AW.seq ?_ | refine AW.skip ?_ | refine AW.ret ?_) | ((with_reducible apply xcond); exact rfl))) | with_reducible (first | refine xthen ?_ | refine xthen_r ?_) | (with_reducible intro hc; (try simp only [decide_eq_true_eq, decide_eq_false_iff_not, Bool.not_true, Bool.not_false, Bool.not_eq_true', Bool.not_eq_false', ne_eq, not_true, reduceCtorEq, List.length_map] at hc); (try (exfalso; omega))) | with_reducible (first | exact trivial | refine And.intro ?_ ?_ | exact rfl) | exact Eq.refl true | (refine inR_i64.mpr ?_; first | omega | (simp only [List.length_map, List.length_map]; omega)))
      all_goals clear hrow hrow2 hL
      all_goals (refine xfinIs (by first | exact .inl rfl | exact .inr rfl) rfl (by repeat' (first | exact trivial | exact rfl | refine And.intro ?_ ?_)) rfl ?_ rfl; simp only [V.d.injEq, D.bool.injEq, D.int.injEq]; first | rfl | (simp_all [nodeOk, hup, cellOk, Int.natCast_pos, List.length_pos_iff]; done) | (simp_all [nodeOk, hup, cellOk, Int.natCast_pos, List.length_pos_iff]; omega))
    · have hu := upOk_out (t := t) (by omega) hr
      generalize hup : upOk t k t[k] = up at hu
      repeat' (first | ((with_reducible apply xsim); (first | ((with_reducible apply xlenM); exact rfl; exact rfl) | ((with_reducible apply xo); exact rfl) | ((with_reducible apply xst); exact rfl) | with_reducible apply xend | ((with_reducible apply xguardTS); exact rfl; exact rfl) | ((with_reducible apply xguardS); exact rfl; exact rfl) | ((with_reducible apply xalloc); exact rfl; simp only [backV, backVs, backVs_mapd, backId, backO, List.map_cons, List.map_nil, List.getElem?_nil, List.length_cons, List.length_nil, Nat.reduceAdd, Nat.reduceSub, List.cons_append, List.nil_append, List.append_nil]) | ((with_reducible apply xbox); exact rfl; simp only [backV, backVs, backVs_mapd, backId, backO, List.map_cons, List.map_nil, List.getElem?_nil, List.length_cons, List.length_nil, Nat.reduceAdd, Nat.reduceSub, List.cons_append, List.nil_append, List.append_nil]) | ((with_reducible apply xidxL); exact rfl; exact rfl; exact rfl; (first | exact hrow); omega; first | exact rfl | simp only [hsz]) | ((with_reducible apply xcallIs); exact rfl; exact rfl; (first | exact c_inRange _ _ _ | exact c_validPack _ | exact c_validPlace _ | exact c_validLines _ (hL _ hlt).1 | exact c_validLines _ (hL _ hlt).2 | exact c_validCellN _ _ _ (hL _ _).1 (hL _ _).2); exact rfl))) | ((with_reducible apply xaw); (first | ((with_reducible apply xstepS); refine AW.step tok rfl ?_) | with_reducible (first | refine AW.seq ?_ | refine AW.skip ?_ | refine AW.ret ?_) | ((with_reducible apply xcond); exact rfl))) | with_reducible (first | refine xthen ?_ | refine xthen_r ?_) | (with_reducible intro hc; (try simp only [decide_eq_true_eq, decide_eq_false_iff_not, Bool.not_true, Bool.not_false, Bool.not_eq_true', Bool.not_eq_false', ne_eq, not_true, reduceCtorEq, List.length_map] at hc); (try (exfalso; omega))) | with_reducible (first | exact trivial | refine And.intro ?_ ?_ | exact rfl) | exact Eq.refl true | (refine inR_i64.mpr ?_; first | omega | (simp only [List.length_map, List.length_map]; omega)))
      all_goals clear hrow hL
      all_goals (refine xfinIs (by first | exact .inl rfl | exact .inr rfl) rfl (by repeat' (first | exact trivial | exact rfl | refine And.intro ?_ ?_)) rfl ?_ rfl; simp only [V.d.injEq, D.bool.injEq, D.int.injEq]; first | rfl | (simp_all [nodeOk, hup, Int.natCast_pos, List.length_pos_iff]; done) | (simp_all [nodeOk, hup, Int.natCast_pos, List.length_pos_iff]; omega))
end Go.Proofs.YticgjepndfjafaaGreat

namespace Go.Proofs.YticgjepndfjafaaGreat
open Go.Fw
attribute [local irreducible] Go.Fw.aops Go.Fw.arun

set_option maxRecDepth 8000 in
set_option maxHeartbeats 4000000 in
theorem c_reqI (t : List Node) (h : TreeK t) : ∀ m i : Nat, t.length - i ≤ m → i < t.length → ACon Tryz.prog 49 [vTree t, .d (.int .i64 (i : Int))] [] (Is (wishV (wish t i))) := by
  intro m
  induction m with
  | zero => intro i h1 h2; omega
  | succ m ih =>
    intro i h1 h2
    have hhi := h.hi
    have hkl : (kids t i).length ≤ 10 := by have := kids_len t i t.length; unfold kids; omega
    have hks : ∀ k ∈ kids t i, k < t.length := fun k hk => (h.kid hk).1
    have hreq : ∀ k ∈ kids t i, ACon Tryz.prog 49 [vTree t, .d (.int .i64 (k : Int))] [] (Is (wishV (wish t k))) := fun k hk => by
      obtain ⟨a, b, _⟩ := h.kid hk
      exact ih k (by omega) a
    have c1 := c_kidsI t h i
    have c2 := ORows.data (c_packsI t h _ hks hkl hreq)
    have c3 := c_gridI t h i h2 _ hks hkl hreq
    have c4 := c_preqI (itemsOf t (kids t i)) (items_ok h i).1 (items_ok h i).2
    have hrow := at_map (f := encNode) h2
    have hn := (nodeOk_iff (h.ok i h2)).1
    have hw := wish_eq h h2
    unfold wishOf at hw
    rw [nodeAt_eq h2] at hw
    by_cases hA : t[i].keep = true ∨ kids t i = [] ∨ t[i].kind = 2
    · rw [if_pos hA] at hw
      rw [hw]
      have hA' : t[i].keep = true ∨ (kids t i).length = 0 ∨ t[i].kind = 2 := by rw [List.length_eq_zero_iff]; exact hA
      clear hw hA hreq ih
      rcases hA' with hA | hA | hA
      all_goals
        refine ACon.introW tok (nt := 50) Tryz.func49 rfl rfl rfl (by kernel_rfl) rfl ?_
        repeat' (first | ((with_reducible apply xsim); (first | ((with_reducible apply xlenM); exact rfl; exact rfl) | ((with_reducible apply xo); exact rfl) | ((with_reducible apply xst); exact rfl) | with_reducible apply xend | ((with_reducible apply xguardS); exact rfl; exact rfl) | ((with_reducible apply xalloc); exact rfl; simp only [backV, backVs, backVs_mapd, backId, backO, List.map_cons, List.map_nil, List.getElem?_nil, List.length_cons, List.length_nil, Nat.reduceAdd, Nat.reduceSub, List.cons_append, List.nil_append, List.append_nil]) | ((with_reducible apply xbox); exact rfl; simp only [backV, backVs, backVs_mapd, backId, backO, List.map_cons, List.map_nil, List.getElem?_nil, List.length_cons, List.length_nil, Nat.reduceAdd, Nat.reduceSub, List.cons_append, List.nil_append, List.append_nil]) | ((with_reducible apply xidxL); exact rfl; exact rfl; exact rfl; (first | exact hrow); omega; first | exact rfl | simp only [hsz]))) | ((with_reducible apply xaw); (first | ((with_reducible apply xstepS); refine AW.step tok rfl ?_) | with_reducible (first | refine AW.seq ?_ | refine AW.block ?_ | refine AW.ret ?_) | ((with_reducible apply xcond); exact rfl) | ((with_reducible apply xdraw (id := 1)); refine AW.draw (id := 1) (.q 0 (.q 1 (.q 2 (.q 3 (.q 4 (.q 5 (.q 6 (.q 7 (.e 8 (.e 9 (.q 10 (.fin)))))))))))) tok (by kernel_rfl) rfl (by kernel_rfl) ?_) | ((with_reducible apply xdraw (id := 3)); refine AW.draw (id := 3) (.q 0 (.q 1 (.q 2 (.q 3 (.q 4 (.q 5 (.fin))))))) tok (by kernel_rfl) rfl (by kernel_rfl) ?_))) | ((with_reducible apply xarun); (first | ((with_reducible apply xrun_q); exact rfl; exact rfl; exact rfl) | ((with_reducible apply xrun_c); exact rfl; exact rfl; exact rfl; exact rfl; exact rfl; exact rfl; exact c1; exact rfl) | ((with_reducible apply xrun_e); exact rfl) | with_reducible apply xrun_f)) | with_reducible (first | refine xthen ?_ | refine xthen_r ?_ | refine xblock_r ?_) | (with_reducible intro hc; (try simp only [decide_eq_true_eq, decide_eq_false_iff_not, Bool.not_true, Bool.not_false, Bool.not_eq_true', Bool.not_eq_false', ne_eq, not_true, reduceCtorEq, List.length_map, hA] at hc); (try (exfalso; omega))) | with_reducible (first | exact trivial | refine And.intro ?_ ?_ | exact rfl) | exact Eq.refl true)
        all_goals (refine xfinIs (by first | exact .inl rfl | exact .inr rfl) rfl (by repeat' (first | exact trivial | exact rfl | refine And.intro ?_ ?_)) rfl ?_ rfl; first | (simp -implicitDefEqProofs only [go_sem, Int.reduceEq, Int.reduceLT, Int.reduceLE, Nat.reduceAdd, Nat.reduceSub, Nat.reduceMul, Nat.reduceEqDiff, Nat.reduceLeDiff, Nat.reducePow, ↓reduceIte, reduceCtorEq, wishV] <;> (first | rfl | omega | exact decide_eq_decide.2 (by omega) | exact decide_eq_false (by omega) | exact decide_eq_true (by omega) | (symm; first | exact decide_eq_false (by omega) | exact decide_eq_true (by omega)) | (rw [Bool.eq_iff_iff]; simp only [Bool.not_eq_true', Bool.not_eq_false', Bool.and_eq_true, Bool.or_eq_true, decide_eq_true_eq, decide_eq_false_iff_not, reduceCtorEq, true_iff, iff_true, false_iff, iff_false]; omega))))
    · rw [if_neg hA] at hw
      rw [not_or, not_or, ← List.length_eq_zero_iff] at hA
      obtain ⟨hk1, hk2, hk3⟩ := hA
      have hk1 : t[i].keep = false := by simpa using hk1
      by_cases hk0 : t[i].kind = 0
      · rw [if_pos hk0] at hw
        have hw : wish t i = preqs (itemsOf t (kids t i)) := hw
        rw [hw]
        clear hw hreq ih
        refine ACon.introW tok (nt := 50) Tryz.func49 rfl rfl rfl (by kernel_rfl) rfl ?_
        repeat' (first | ((with_reducible apply xsim); (first | ((with_reducible apply xlenM); exact rfl; exact rfl) | ((with_reducible apply xo); exact rfl) | ((with_reducible apply xst); exact rfl) | with_reducible apply xend | ((with_reducible apply xguardS); exact rfl; exact rfl) | ((with_reducible apply xalloc); exact rfl; simp only [backV, backVs, backVs_mapd, backId, backO, List.map_cons, List.map_nil, List.getElem?_nil, List.length_cons, List.length_nil, Nat.reduceAdd, Nat.reduceSub, List.cons_append, List.nil_append, List.append_nil]) | ((with_reducible apply xbox); exact rfl; simp only [backV, backVs, backVs_mapd, backId, backO, List.map_cons, List.map_nil, List.getElem?_nil, List.length_cons, List.length_nil, Nat.reduceAdd, Nat.reduceSub, List.cons_append, List.nil_append, List.append_nil]) | ((with_reducible apply xidxL); exact rfl; exact rfl; exact rfl; (first | exact hrow); omega; first | exact rfl | simp only [hsz]) | ((with_reducible apply xcallIs); exact rfl; exact rfl; (first | exact c1 | exact c2 | exact c4); exact rfl))) | ((with_reducible apply xaw); (first | ((with_reducible apply xstepS); refine AW.step tok rfl ?_) | with_reducible (first | refine AW.seq ?_ | refine AW.block ?_ | refine AW.ret ?_) | ((with_reducible apply xcond); exact rfl) | ((with_reducible apply xdraw (id := 1)); refine AW.draw (id := 1) (.q 0 (.q 1 (.q 2 (.q 3 (.q 4 (.q 5 (.q 6 (.q 7 (.e 8 (.e 9 (.q 10 (.fin)))))))))))) tok (by kernel_rfl) rfl (by kernel_rfl) ?_))) | ((with_reducible apply xarun); (first | ((with_reducible apply xrun_q); exact rfl; exact rfl; exact rfl) | ((with_reducible apply xrun_c); exact rfl; exact rfl; exact rfl; exact rfl; exact rfl; exact rfl; (first | exact c1 | exact c2 | exact c4); exact rfl) | ((with_reducible apply xrun_e); exact rfl) | with_reducible apply xrun_f)) | with_reducible (first | refine xthen ?_ | refine xthen_r ?_ | refine xblock_r ?_) | (with_reducible intro hc; (try simp only [decide_eq_true_eq, decide_eq_false_iff_not, Bool.not_true, Bool.not_false, Bool.not_eq_true', Bool.not_eq_false', ne_eq, not_true, reduceCtorEq, List.length_map, hk1] at hc); (try (exfalso; omega))) | with_reducible (first | exact trivial | refine And.intro ?_ ?_ | exact rfl) | exact Eq.refl true)
        all_goals (refine xfinIs (by first | exact .inl rfl | exact .inr rfl) rfl (by repeat' (first | exact trivial | exact rfl | refine And.intro ?_ ?_)) rfl ?_ rfl; first | (simp -implicitDefEqProofs only [go_sem, Int.reduceEq, Int.reduceLT, Int.reduceLE, Nat.reduceAdd, Nat.reduceSub, Nat.reduceMul, Nat.reduceEqDiff, Nat.reduceLeDiff, Nat.reducePow, ↓reduceIte, reduceCtorEq, wishV] <;> (first | rfl | omega | exact decide_eq_decide.2 (by omega) | exact decide_eq_false (by omega) | exact decide_eq_true (by omega) | (symm; first | exact decide_eq_false (by omega) | exact decide_eq_true (by omega)) | (rw [Bool.eq_iff_iff]; simp only [Bool.not_eq_true', Bool.not_eq_false', Bool.and_eq_true, Bool.or_eq_true, decide_eq_true_eq, decide_eq_false_iff_not, reduceCtorEq, true_iff, iff_true, false_iff, iff_false]; omega))))
      · rw [if_neg hk0] at hw
        have hk1' : (nodeAt t i).kind = 1 := by rw [nodeAt_eq h2]; omega
        have c5 := c_requestI (gridOf t i (kids t i)) (grid_ok h h2 hk1')
        have hw : wish t i = gridReq (gridOf t i (kids t i)) := by rw [hw, ← nodeAt_eq h2]; rfl
        rw [hw]
        clear hw hreq ih
        refine ACon.introW tok (nt := 50) Tryz.func49 rfl rfl rfl (by kernel_rfl) rfl ?_
        repeat' (first | ((with_reducible apply xsim); (first | ((with_reducible apply xlenM); exact rfl; exact rfl) | ((with_reducible apply xo); exact rfl) | ((with_reducible apply xst); exact rfl) | with_reducible apply xend | ((with_reducible apply xguardS); exact rfl; exact rfl) | ((with_reducible apply xalloc); exact rfl; simp only [backV, backVs, backVs_mapd, backId, backO, List.map_cons, List.map_nil, List.getElem?_nil, List.length_cons, List.length_nil, Nat.reduceAdd, Nat.reduceSub, List.cons_append, List.nil_append, List.append_nil]) | ((with_reducible apply xbox); exact rfl; simp only [backV, backVs, backVs_mapd, backId, backO, List.map_cons, List.map_nil, List.getElem?_nil, List.length_cons, List.length_nil, Nat.reduceAdd, Nat.reduceSub, List.cons_append, List.nil_append, List.append_nil]) | ((with_reducible apply xidxL); exact rfl; exact rfl; exact rfl; (first | exact hrow); omega; first | exact rfl | simp only [hsz]) | ((with_reducible apply xcallIs); exact rfl; exact rfl; (first | exact c1 | exact c3 | exact c5); exact rfl))) | ((with_reducible apply xaw); (first | ((with_reducible apply xstepS); refine AW.step tok rfl ?_) | with_reducible (first | refine AW.seq ?_ | refine AW.block ?_ | refine AW.skip ?_ | refine AW.ret ?_) | ((with_reducible apply xcond); exact rfl) | ((with_reducible apply xdraw (id := 1)); refine AW.draw (id := 1) (.q 0 (.q 1 (.q 2 (.q 3 (.q 4 (.q 5 (.q 6 (.q 7 (.e 8 (.e 9 (.q 10 (.fin)))))))))))) tok (by kernel_rfl) rfl (by kernel_rfl) ?_))) | ((with_reducible apply xarun); (first | ((with_reducible apply xrun_q); exact rfl; exact rfl; exact rfl) | ((with_reducible apply xrun_c); exact rfl; exact rfl; exact rfl; exact rfl; exact rfl; exact rfl; (first | exact c1 | exact c3 | exact c5); exact rfl) | ((with_reducible apply xrun_e); exact rfl) | with_reducible apply xrun_f)) | with_reducible (first | refine xthen ?_ | refine xblock ?_) | (with_reducible intro hc; (try simp only [decide_eq_true_eq, decide_eq_false_iff_not, Bool.not_true, Bool.not_false, Bool.not_eq_true', Bool.not_eq_false', ne_eq, not_true, reduceCtorEq, List.length_map, hk1] at hc); (try (exfalso; omega))) | with_reducible (first | exact trivial | refine And.intro ?_ ?_ | exact rfl) | exact Eq.refl true)
        all_goals (refine xfinIs (by first | exact .inl rfl | exact .inr rfl) rfl (by repeat' (first | exact trivial | exact rfl | refine And.intro ?_ ?_)) rfl ?_ rfl; first | (simp -implicitDefEqProofs only [go_sem, Int.reduceEq, Int.reduceLT, Int.reduceLE, Nat.reduceAdd, Nat.reduceSub, Nat.reduceMul, Nat.reduceEqDiff, Nat.reduceLeDiff, Nat.reducePow, ↓reduceIte, reduceCtorEq, wishV] <;> (first | rfl | omega | exact decide_eq_decide.2 (by omega) | exact decide_eq_false (by omega) | exact decide_eq_true (by omega) | (symm; first | exact decide_eq_false (by omega) | exact decide_eq_true (by omega)) | (rw [Bool.eq_iff_iff]; simp only [Bool.not_eq_true', Bool.not_eq_false', Bool.and_eq_true, Bool.or_eq_true, decide_eq_true_eq, decide_eq_false_iff_not, reduceCtorEq, true_iff, iff_true, false_iff, iff_false]; omega))))

set_option maxRecDepth 8000 in
set_option maxHeartbeats 4000000 in
theorem c_reqS (t : List Node) (h : TreeK t) : ∀ m i : Nat, t.length - i ≤ m → i < t.length → ACon Tryz.prog 64 [vTree t, .d (.int .i64 (i : Int))] [] (Is (wishV (wish t i))) := by
  intro m
  induction m with
  | zero => intro i h1 h2; omega
  | succ m ih =>
    intro i h1 h2
    have hhi := h.hi
    have hkl : (kids t i).length ≤ 10 := by have := kids_len t i t.length; unfold kids; omega
    have hks : ∀ k ∈ kids t i, k < t.length := fun k hk => (h.kid hk).1
    have hreq : ∀ k ∈ kids t i, ACon Tryz.prog 64 [vTree t, .d (.int .i64 (k : Int))] [] (Is (wishV (wish t k))) := fun k hk => by
      obtain ⟨a, b, _⟩ := h.kid hk
      exact ih k (by omega) a
    have c1 := c_kidsS t h i
    have c2 := ORows.data (c_packsS t h _ hks hkl hreq)
    have c3 := c_gridS t h i h2 _ hks hkl hreq
    have c4 := c_preqS (itemsOf t (kids t i)) (items_ok h i).1 (items_ok h i).2
    have hrow := at_map (f := encNode) h2
    have hn := (nodeOk_iff (h.ok i h2)).1
    have hw := wish_eq h h2
    unfold wishOf at hw
    rw [nodeAt_eq h2] at hw
    by_cases hA : t[i].keep = true ∨ kids t i = [] ∨ t[i].kind = 2
    · rw [if_pos hA] at hw
      rw [hw]
      have hA' : t[i].keep = true ∨ (kids t i).length = 0 ∨ t[i].kind = 2 := by rw [List.length_eq_zero_iff]; exact hA
      clear hw hA hreq ih
      rcases hA' with hA | hA | hA
      all_goals
        refine ACon.introW tok (nt := 48) Tryz.func64 rfl rfl rfl (by kernel_rfl) rfl ?_
        repeat' (first | ((with_reducible apply xsim); (first | ((with_reducible apply xlenM); exact rfl; exact rfl) | ((with_reducible apply xo); exact rfl) | ((with_reducible apply xst); exact rfl) | with_reducible apply xend | ((with_reducible apply xguardS); exact rfl; exact rfl) | ((with_reducible apply xalloc); exact rfl; simp only [backV, backVs, backVs_mapd, backId, backO, List.map_cons, List.map_nil, List.getElem?_nil, List.length_cons, List.length_nil, Nat.reduceAdd, Nat.reduceSub, List.cons_append, List.nil_append, List.append_nil]) | ((with_reducible apply xbox); exact rfl; simp only [backV, backVs, backVs_mapd, backId, backO, List.map_cons, List.map_nil, List.getElem?_nil, List.length_cons, List.length_nil, Nat.reduceAdd, Nat.reduceSub, List.cons_append, List.nil_append, List.append_nil]) | ((with_reducible apply xidxL); exact rfl; exact rfl; exact rfl; (first | exact hrow); omega; first | exact rfl | simp only [hsz]) | ((with_reducible apply xcallIs); exact rfl; exact rfl; exact c1; exact rfl))) | ((with_reducible apply xaw); (first | ((with_reducible apply xstepS); refine AW.step tok rfl ?_) | with_reducible (first | refine AW.seq ?_ | refine AW.ret ?_) | ((with_reducible apply xcond); exact rfl) | ((with_reducible apply xdraw (id := 4)); refine AW.draw (id := 4) (.q 0 (.q 1 (.q 2 (.q 3 (.q 4 (.q 5 (.fin))))))) tok (by kernel_rfl) rfl (by kernel_rfl) ?_))) | ((with_reducible apply xarun); (first | ((with_reducible apply xrun_q); exact rfl; exact rfl; exact rfl) | with_reducible apply xrun_f)) | with_reducible (first | refine xthen ?_ | refine xthen_r ?_) | (with_reducible intro hc; (try simp only [decide_eq_true_eq, decide_eq_false_iff_not, Bool.not_true, Bool.not_false, Bool.not_eq_true', Bool.not_eq_false', ne_eq, not_true, reduceCtorEq, List.length_map, hA] at hc); (try (exfalso; omega))) | with_reducible (first | exact trivial | refine And.intro ?_ ?_ | exact rfl) | exact Eq.refl true)
        all_goals (refine xfinIs (by first | exact .inl rfl | exact .inr rfl) rfl (by repeat' (first | exact trivial | exact rfl | refine And.intro ?_ ?_)) rfl ?_ rfl; first | (simp -implicitDefEqProofs only [go_sem, Int.reduceEq, Int.reduceLT, Int.reduceLE, Nat.reduceAdd, Nat.reduceSub, Nat.reduceMul, Nat.reduceEqDiff, Nat.reduceLeDiff, Nat.reducePow, ↓reduceIte, reduceCtorEq, wishV] <;> (first | rfl | omega | exact decide_eq_decide.2 (by omega) | exact decide_eq_false (by omega) | exact decide_eq_true (by omega) | (symm; first | exact decide_eq_false (by omega) | exact decide_eq_true (by omega)) | (rw [Bool.eq_iff_iff]; simp only [Bool.not_eq_true', Bool.not_eq_false', Bool.and_eq_true, Bool.or_eq_true, decide_eq_true_eq, decide_eq_false_iff_not, reduceCtorEq, true_iff, iff_true, false_iff, iff_false]; omega))))
    · rw [if_neg hA] at hw
      rw [not_or, not_or, ← List.length_eq_zero_iff] at hA
      obtain ⟨hk1, hk2, hk3⟩ := hA
      have hk1 : t[i].keep = false := by simpa using hk1
      by_cases hk0 : t[i].kind = 0
      · rw [if_pos hk0] at hw
        have hw : wish t i = preqs (itemsOf t (kids t i)) := hw
        rw [hw]
        clear hw hreq ih
        refine ACon.introW tok (nt := 48) Tryz.func64 rfl rfl rfl (by kernel_rfl) rfl ?_
        repeat' (first | ((with_reducible apply xsim); (first | ((with_reducible apply xlenM); exact rfl; exact rfl) | ((with_reducible apply xo); exact rfl) | ((with_reducible apply xst); exact rfl) | with_reducible apply xend | ((with_reducible apply xguardS); exact rfl; exact rfl) | ((with_reducible apply xalloc); exact rfl; simp only [backV, backVs, backVs_mapd, backId, backO, List.map_cons, List.map_nil, List.getElem?_nil, List.length_cons, List.length_nil, Nat.reduceAdd, Nat.reduceSub, List.cons_append, List.nil_append, List.append_nil]) | ((with_reducible apply xbox); exact rfl; simp only [backV, backVs, backVs_mapd, backId, backO, List.map_cons, List.map_nil, List.getElem?_nil, List.length_cons, List.length_nil, Nat.reduceAdd, Nat.reduceSub, List.cons_append, List.nil_append, List.append_nil]) | ((with_reducible apply xidxL); exact rfl; exact rfl; exact rfl; (first | exact hrow); omega; first | exact rfl | simp only [hsz]) | ((with_reducible apply xcallIs); exact rfl; exact rfl; (first | exact c1 | exact c2 | exact c4); exact rfl))) | ((with_reducible apply xaw); (first | ((with_reducible apply xstepS); refine AW.step tok rfl ?_) | with_reducible (first | refine AW.seq ?_ | refine AW.skip ?_ | refine AW.ret ?_) | ((with_reducible apply xcond); exact rfl))) | with_reducible (first | refine xthen ?_ | refine xthen_r ?_) | (with_reducible intro hc; (try simp only [decide_eq_true_eq, decide_eq_false_iff_not, Bool.not_true, Bool.not_false, Bool.not_eq_true', Bool.not_eq_false', ne_eq, not_true, reduceCtorEq, List.length_map, hk1] at hc); (try (exfalso; omega))) | with_reducible (first | exact trivial | refine And.intro ?_ ?_ | exact rfl) | exact Eq.refl true)
        all_goals (refine xfinIs (by first | exact .inl rfl | exact .inr rfl) rfl (by repeat' (first | exact trivial | exact rfl | refine And.intro ?_ ?_)) rfl ?_ rfl; first | (simp -implicitDefEqProofs only [go_sem, Int.reduceEq, Int.reduceLT, Int.reduceLE, Nat.reduceAdd, Nat.reduceSub, Nat.reduceMul, Nat.reduceEqDiff, Nat.reduceLeDiff, Nat.reducePow, ↓reduceIte, reduceCtorEq, wishV] <;> (first | rfl | omega | exact decide_eq_decide.2 (by omega) | exact decide_eq_false (by omega) | exact decide_eq_true (by omega) | (symm; first | exact decide_eq_false (by omega) | exact decide_eq_true (by omega)) | (rw [Bool.eq_iff_iff]; simp only [Bool.not_eq_true', Bool.not_eq_false', Bool.and_eq_true, Bool.or_eq_true, decide_eq_true_eq, decide_eq_false_iff_not, reduceCtorEq, true_iff, iff_true, false_iff, iff_false]; omega))))
      · rw [if_neg hk0] at hw
        have hk1' : (nodeAt t i).kind = 1 := by rw [nodeAt_eq h2]; omega
        have c5 := c_requestS (gridOf t i (kids t i)) (grid_ok h h2 hk1')
        have hw : wish t i = gridReq (gridOf t i (kids t i)) := by rw [hw, ← nodeAt_eq h2]; rfl
        rw [hw]
        clear hw hreq ih
        refine ACon.introW tok (nt := 48) Tryz.func64 rfl rfl rfl (by kernel_rfl) rfl ?_
        repeat' (first | ((with_reducible apply xsim); (first | ((with_reducible apply xlenM); exact rfl; exact rfl) | ((with_reducible apply xo); exact rfl) | ((with_reducible apply xst); exact rfl) | with_reducible apply xend | ((with_reducible apply xguardS); exact rfl; exact rfl) | ((with_reducible apply xalloc); exact rfl; simp only [backV, backVs, backVs_mapd, backId, backO, List.map_cons, List.map_nil, List.getElem?_nil, List.length_cons, List.length_nil, Nat.reduceAdd, Nat.reduceSub, List.cons_append, List.nil_append, List.append_nil]) | ((with_reducible apply xbox); exact rfl; simp only [backV, backVs, backVs_mapd, backId, backO, List.map_cons, List.map_nil, List.getElem?_nil, List.length_cons, List.length_nil, Nat.reduceAdd, Nat.reduceSub, List.cons_append, List.nil_append, List.append_nil]) | ((with_reducible apply xidxL); exact rfl; exact rfl; exact rfl; (first | exact hrow); omega; first | exact rfl | simp only [hsz]) | ((with_reducible apply xcallIs); exact rfl; exact rfl; (first | exact c1 | exact c3 | exact c5); exact rfl))) | ((with_reducible apply xaw); (first | ((with_reducible apply xstepS); refine AW.step tok rfl ?_) | with_reducible (first | refine AW.seq ?_ | refine AW.skip ?_ | refine AW.ret ?_) | ((with_reducible apply xcond); exact rfl))) | with_reducible refine xthen ?_ | (with_reducible intro hc; (try simp only [decide_eq_true_eq, decide_eq_false_iff_not, Bool.not_true, Bool.not_false, Bool.not_eq_true', Bool.not_eq_false', ne_eq, not_true, reduceCtorEq, List.length_map, hk1] at hc); (try (exfalso; omega))) | with_reducible (first | exact trivial | refine And.intro ?_ ?_ | exact rfl) | exact Eq.refl true)
        all_goals (refine xfinIs (by first | exact .inl rfl | exact .inr rfl) rfl (by repeat' (first | exact trivial | exact rfl | refine And.intro ?_ ?_)) rfl ?_ rfl; first | (simp -implicitDefEqProofs only [go_sem, Int.reduceEq, Int.reduceLT, Int.reduceLE, Nat.reduceAdd, Nat.reduceSub, Nat.reduceMul, Nat.reduceEqDiff, Nat.reduceLeDiff, Nat.reducePow, ↓reduceIte, reduceCtorEq, wishV] <;> (first | rfl | omega | exact decide_eq_decide.2 (by omega) | exact decide_eq_false (by omega) | exact decide_eq_true (by omega) | (symm; first | exact decide_eq_false (by omega) | exact decide_eq_true (by omega)) | (rw [Bool.eq_iff_iff]; simp only [Bool.not_eq_true', Bool.not_eq_false', Bool.and_eq_true, Bool.or_eq_true, decide_eq_true_eq, decide_eq_false_iff_not, reduceCtorEq, true_iff, iff_true, false_iff, iff_false]; omega))))

theorem c_request (t : List Node) (h : TreeK t) (i : Nat) (hi : i < t.length) : ACon Tryz.prog 49 [vTree t, .d (.int .i64 (i : Int))] [] (Is (wishV (wish t i))) := c_reqI t h _ i (Nat.le_refl _) hi
theorem c_sizeOf (t : List Node) (h : TreeK t) (i : Nat) (hi : i < t.length) : ACon Tryz.prog 64 [vTree t, .d (.int .i64 (i : Int))] [] (Is (wishV (wish t i))) := c_reqS t h _ i (Nat.le_refl _) hi
end Go.Proofs.YticgjepndfjafaaGreat

namespace Go.Proofs.YticgjepndfjafaaGreat
open Go.Fw

/-! A node asks for another size. -/
section
variable {t : List Node} {i : Nat} {w h : Int}
end

/-- The way up from a node. -/
def wayF (t : List Node) : Nat → Nat → List Nat
  | 0, i => [i]
  | f + 1, i => if i = 0 then [0] else i :: wayF t f (nodeAt t i).parent.toNat
def way (t : List Node) (i : Nat) : List Nat := wayF t i i
theorem wayF_fuel {t : List Node} (h : TreeK t) : ∀ (f g i : Nat), i < t.length → i ≤ f → i ≤ g → wayF t f i = wayF t g i := by
  intro f
  induction f with
  | zero =>
    intro g i hi h1 h2
    have : i = 0 := by omega
    subst this
    cases g <;> simp [wayF]
  | succ f ih =>
    intro g i hi h1 h2
    by_cases h0 : i = 0
    · subst h0
      cases g <;> simp [wayF]
    · cases g with
      | zero => omega
      | succ g =>
        have hp := h.up i hi (by omega)
        simp only [wayF]
        rw [if_neg h0, if_neg h0, nodeAt_eq hi, ih g _ (by omega) (by omega) (by omega)]
theorem way_zero (t : List Node) : way t 0 = [0] := rfl
theorem way_succ {t : List Node} (h : TreeK t) {i : Nat} (hi : i < t.length) (h0 : i ≠ 0) : way t i = i :: way t t[i].parent.toNat := by
  have hp := h.up i hi (by omega)
  obtain ⟨m, rfl⟩ : ∃ m, i = m + 1 := ⟨i - 1, by omega⟩
  unfold way
  simp only [wayF]
  rw [if_neg h0, nodeAt_eq hi, wayF_fuel h m _ _ (by omega) (by omega) (Nat.le_refl _)]
theorem way_head {t : List Node} (h : TreeK t) {i : Nat} (hi : i < t.length) : ∃ r, way t i = i :: r := by
  by_cases h0 : i = 0
  · subst h0; exact ⟨[], rfl⟩
  · exact ⟨_, way_succ h hi h0⟩
theorem way_le {t : List Node} (h : TreeK t) : ∀ i, i < t.length → ∀ k ∈ way t i, k ≤ i := by
  intro i
  induction i using Nat.strongRecOn with
  | ind i ih =>
    intro hi k hk
    by_cases h0 : i = 0
    · subst h0
      rw [way_zero, List.mem_singleton] at hk
      omega
    · rw [way_succ h hi h0] at hk
      have hp := h.up i hi (by omega)
      rcases List.mem_cons.1 hk with rfl | hk
      · exact Nat.le_refl _
      · have := ih _ (by omega) (by omega) k hk
        omega
theorem way_len {t : List Node} (h : TreeK t) : ∀ i, i < t.length → (way t i).length ≤ i + 1 := by
  intro i
  induction i using Nat.strongRecOn with
  | ind i ih =>
    intro hi
    by_cases h0 : i = 0
    · subst h0
      simp [way_zero]
    · rw [way_succ h hi h0]
      have hp := h.up i hi (by omega)
      have := ih t[i].parent.toNat (by omega) (by omega)
      simp only [List.length_cons]
      omega
/-- The node behind another one on the way up is its parent; the last one is the root. -/
theorem way_next {t : List Node} (h : TreeK t) : ∀ i, i < t.length → ∀ k (hk : k + 1 < (way t i).length), ∃ hl : (way t i)[k] < t.length, t[(way t i)[k]].parent = (((way t i)[k + 1] : Nat) : Int) := by
  intro i
  induction i using Nat.strongRecOn with
  | ind i ih =>
    intro hi k hk
    by_cases h0 : i = 0
    · subst h0
      simp only [way_zero, List.length_cons, List.length_nil] at hk
      omega
    · have hp := h.up i hi (by omega)
      have e := way_succ h hi h0
      simp only [e, List.length_cons] at hk ⊢
      cases k with
      | zero =>
        obtain ⟨r, hr⟩ := way_head h (i := t[i].parent.toNat) (by omega)
        simp only [List.getElem_cons_zero, List.getElem_cons_succ, hr]
        exact ⟨hi, by omega⟩
      | succ k =>
        simp only [List.getElem_cons_succ]
        exact ih _ (by omega) (by omega) k (by omega)
theorem way_last {t : List Node} (h : TreeK t) : ∀ i, i < t.length → ∃ hl : 0 < (way t i).length, (way t i)[(way t i).length - 1]'(by omega) = 0 := by
  intro i
  induction i using Nat.strongRecOn with
  | ind i ih =>
    intro hi
    by_cases h0 : i = 0
    · subst h0
      exact ⟨by simp [way_zero], rfl⟩
    · have hp := h.up i hi (by omega)
      obtain ⟨a, b⟩ := ih t[i].parent.toNat (by omega) (by omega)
      refine ⟨by rw [way_succ h hi h0]; simp, ?_⟩
      simp only [way_succ h hi h0, List.length_cons]
      obtain ⟨r, hr⟩ := way_head h (i := t[i].parent.toNat) (by omega)
      simp only [hr] at b ⊢
      simp only [List.length_cons, Nat.add_sub_cancel, List.getElem_cons_succ] at b ⊢
      exact b
end Go.Proofs.YticgjepndfjafaaGreat

namespace Go.Proofs.YticgjepndfjafaaGreat
open Go.Fw
attribute [local irreducible] Go.Fw.aops Go.Fw.arun

theorem c_validTree (t : List Node) (hL : TreeL t) : ACon Tryz.prog 42 [vTree t] [] (Is (.d (.bool (treeOk t)))) := by
  have hL' := hL
  obtain ⟨hL1, _⟩ := hL'
  refine ACon.introW tok (nt := 19) Tryz.func42 rfl rfl rfl (by kernel_rfl) rfl ?_
  repeat' (first | ((with_reducible apply xsim); (first | ((with_reducible apply xo); exact rfl) | with_reducible apply xend | ((with_reducible apply xbox); exact rfl; simp only [backV, backVs, backVs_mapd, backId, backO, List.map_cons, List.map_nil, List.getElem?_nil, List.length_cons, List.length_nil, Nat.reduceAdd, Nat.reduceSub, List.cons_append, List.nil_append, List.append_nil]))) | ((with_reducible apply xaw); (first | ((with_reducible apply xstepS); refine AW.step tok rfl ?_) | with_reducible (first | refine AW.seq ?_ | refine AW.block ?_))) | with_reducible exact trivial)
  refine AW.loop (S := fun k : Nat => ⟨[(1, .oref 0 0), (3, .d (.int .i64 k))], [.box [.d (.lst (t.map encNode))]], 19, 0⟩)
    (Pre := fun k => k ≤ t.length ∧ ∀ j (h : j < t.length), j < k → (nodeOk t[j] && upOk t j t[j]) = true) (μ := fun k => t.length - k) 0 ⟨Nat.zero_le _, fun j _ h => absurd h (Nat.not_lt_zero _)⟩ ?_ ?_
  · (refine xwk (π := [0]) (by decide) rfl ?_ ?_; (first | simp -implicitDefEqProofs only [go_sem, Int.reduceEq, Int.reduceLT, Int.reduceLE, Nat.reduceAdd, Nat.reduceSub, Nat.reduceMul, Nat.reduceEqDiff, Nat.reduceLeDiff, Nat.reducePow, ↓reduceIte, reduceCtorEq]); repeat' (first | exact renE_n | ((with_reducible apply renE_c); exact rfl; focus (first | (simp -implicitDefEqProofs only [go_sem, Int.reduceEq, Int.reduceLT, Int.reduceLE, Nat.reduceAdd, Nat.reduceSub, Nat.reduceMul, Nat.reduceEqDiff, Nat.reduceLeDiff, Nat.reducePow, ↓reduceIte, reduceCtorEq]; done)))))
  rintro k ⟨hk, hp⟩
  by_cases hlt : k < t.length
  · have cn := c_validNode t hL k hlt
    by_cases hv : (nodeOk t[k] && upOk t k t[k]) = true
    · rw [hv] at cn
      repeat' (first | ((with_reducible apply xsim); (first | ((with_reducible apply xlenM); exact rfl; exact rfl) | ((with_reducible apply xo); exact rfl) | with_reducible apply xend | ((with_reducible apply xcallIs); exact rfl; exact rfl; exact cn; exact rfl))) | ((with_reducible apply xaw); (first | ((with_reducible apply xstepS); refine AW.step tok rfl ?_) | ((with_reducible apply xstep); refine AW.region tok rfl ?_) | with_reducible (first | refine AW.seq ?_ | refine AW.block ?_ | refine AW.skip ?_) | ((with_reducible apply xcond); exact rfl))) | with_reducible (first | refine xthen ?_ | refine xblock ?_) | (with_reducible intro hc; (try simp only [decide_eq_true_eq, decide_eq_false_iff_not, Bool.not_true, Bool.not_false, Bool.not_eq_true', Bool.not_eq_false', ne_eq, not_true, reduceCtorEq, List.length_map] at hc); (try (exfalso; omega))) | with_reducible (first | exact trivial | refine And.intro ?_ ?_ | exact rfl) | exact Eq.refl true | (refine inR_i64.mpr ?_; first | omega | (simp only [List.length_map, List.length_map]; omega)))
      refine round_end (k + 1) ⟨by omega, fun j h hj => ?_⟩ (by omega) (by (refine xwk (π := [0]) (by decide) rfl ?_ ?_; (first | simp -implicitDefEqProofs only [go_sem, Int.reduceEq, Int.reduceLT, Int.reduceLE, Nat.reduceAdd, Nat.reduceSub, Nat.reduceMul, Nat.reduceEqDiff, Nat.reduceLeDiff, Nat.reducePow, ↓reduceIte, reduceCtorEq]); repeat' (first | exact renE_n | ((with_reducible apply renE_c); exact rfl; focus (first | (simp -implicitDefEqProofs only [go_sem, Int.reduceEq, Int.reduceLT, Int.reduceLE, Nat.reduceAdd, Nat.reduceSub, Nat.reduceMul, Nat.reduceEqDiff, Nat.reduceLeDiff, Nat.reducePow, ↓reduceIte, reduceCtorEq]; done))))))
      by_cases e : j = k
      · subst e; exact hv
      · exact hp j h (by omega)
    · have hv' : (nodeOk t[k] && upOk t k t[k]) = false := by simpa using hv
      rw [hv'] at cn
      repeat' (first | ((with_reducible apply xsim); (first | ((with_reducible apply xlenM); exact rfl; exact rfl) | ((with_reducible apply xo); exact rfl) | with_reducible apply xend | ((with_reducible apply xcallIs); exact rfl; exact rfl; exact cn; exact rfl))) | ((with_reducible apply xaw); (first | ((with_reducible apply xstepS); refine AW.step tok rfl ?_) | with_reducible (first | refine AW.seq ?_ | refine AW.block ?_ | refine AW.skip ?_ | refine AW.ret ?_) | ((with_reducible apply xcond); exact rfl))) | with_reducible (first | refine xthen ?_ | refine xthen_r ?_ | refine xblock_r ?_ | refine xround_r ?_) | (with_reducible intro hc; (try simp only [decide_eq_true_eq, decide_eq_false_iff_not, Bool.not_true, Bool.not_false, Bool.not_eq_true', Bool.not_eq_false', ne_eq, not_true, reduceCtorEq, List.length_map] at hc); (try (exfalso; omega))) | with_reducible (first | exact trivial | refine And.intro ?_ ?_ | exact rfl) | exact Eq.refl true)
      (refine xfinIs (by first | exact .inl rfl | exact .inr rfl) rfl (by repeat' (first | exact trivial | exact rfl | refine And.intro ?_ ?_)) rfl ?_ rfl; first | (simp -implicitDefEqProofs only [go_sem, Int.reduceEq, Int.reduceLT, Int.reduceLE, Nat.reduceAdd, Nat.reduceSub, Nat.reduceMul, Nat.reduceEqDiff, Nat.reduceLeDiff, Nat.reducePow, ↓reduceIte, reduceCtorEq, treeOk_ff hlt hv'] <;> (first | rfl | omega | exact decide_eq_decide.2 (by omega) | exact decide_eq_false (by omega) | exact decide_eq_true (by omega) | (symm; first | exact decide_eq_false (by omega) | exact decide_eq_true (by omega)) | (rw [Bool.eq_iff_iff]; simp only [Bool.not_eq_true', Bool.not_eq_false', Bool.and_eq_true, Bool.or_eq_true, decide_eq_true_eq, decide_eq_false_iff_not, reduceCtorEq, true_iff, iff_true, false_iff, iff_false]; omega))))
  · by_cases hlen : 1 ≤ t.length ∧ t.length ≤ 10
    · repeat' (first | ((with_reducible apply xsim); (first | ((with_reducible apply xlenM); exact rfl; exact rfl) | ((with_reducible apply xo); exact rfl) | with_reducible apply xend | ((with_reducible apply xcallIs); exact rfl; exact rfl; exact c_inRange _ _ _; exact rfl))) | ((with_reducible apply xaw); (first | ((with_reducible apply xstepS); refine AW.step tok rfl ?_) | with_reducible (first | refine AW.seq ?_ | refine AW.ret ?_ | refine AW.exit ?_) | ((with_reducible apply xcond); exact rfl))) | with_reducible (first | refine xthen ?_ | refine xthen_e ?_ | refine xblock_e ?_ | refine xround_e ?_) | (with_reducible intro hc; (try simp only [decide_eq_true_eq, decide_eq_false_iff_not, Bool.not_true, Bool.not_false, Bool.not_eq_true', Bool.not_eq_false', ne_eq, not_true, reduceCtorEq, List.length_map] at hc); (try (exfalso; omega))) | with_reducible (first | exact trivial | refine And.intro ?_ ?_ | exact rfl))
      (refine xfinIs (by first | exact .inl rfl | exact .inr rfl) rfl (by repeat' (first | exact trivial | exact rfl | refine And.intro ?_ ?_)) rfl ?_ rfl; first | (simp -implicitDefEqProofs only [go_sem, Int.reduceEq, Int.reduceLT, Int.reduceLE, Nat.reduceAdd, Nat.reduceSub, Nat.reduceMul, Nat.reduceEqDiff, Nat.reduceLeDiff, Nat.reducePow, ↓reduceIte, reduceCtorEq, treeOk_tt hlen fun i h => hp i h (by omega)] <;> (first | rfl | omega | exact decide_eq_decide.2 (by omega) | exact decide_eq_false (by omega) | exact decide_eq_true (by omega) | (symm; first | exact decide_eq_false (by omega) | exact decide_eq_true (by omega)) | (rw [Bool.eq_iff_iff]; simp only [Bool.not_eq_true', Bool.not_eq_false', Bool.and_eq_true, Bool.or_eq_true, decide_eq_true_eq, decide_eq_false_iff_not, reduceCtorEq, true_iff, iff_true, false_iff, iff_false]; omega))))
    · repeat' (first | ((with_reducible apply xsim); (first | ((with_reducible apply xlenM); exact rfl; exact rfl) | ((with_reducible apply xo); exact rfl) | with_reducible apply xend | ((with_reducible apply xcallIs); exact rfl; exact rfl; exact c_inRange _ _ _; exact rfl))) | ((with_reducible apply xaw); (first | ((with_reducible apply xstepS); refine AW.step tok rfl ?_) | with_reducible (first | refine AW.seq ?_ | refine AW.ret ?_ | refine AW.exit ?_) | ((with_reducible apply xcond); exact rfl))) | with_reducible (first | refine xthen ?_ | refine xthen_e ?_ | refine xblock_e ?_ | refine xround_e ?_) | (with_reducible intro hc; (try simp only [decide_eq_true_eq, decide_eq_false_iff_not, Bool.not_true, Bool.not_false, Bool.not_eq_true', Bool.not_eq_false', ne_eq, not_true, reduceCtorEq, List.length_map] at hc); (try (exfalso; omega))) | with_reducible (first | exact trivial | refine And.intro ?_ ?_ | exact rfl))
      (refine xfinIs (by first | exact .inl rfl | exact .inr rfl) rfl (by repeat' (first | exact trivial | exact rfl | refine And.intro ?_ ?_)) rfl ?_ rfl; first | (simp -implicitDefEqProofs only [go_sem, Int.reduceEq, Int.reduceLT, Int.reduceLE, Nat.reduceAdd, Nat.reduceSub, Nat.reduceMul, Nat.reduceEqDiff, Nat.reduceLeDiff, Nat.reducePow, ↓reduceIte, reduceCtorEq, treeOk_len hlen] <;> (first | rfl | omega | exact decide_eq_decide.2 (by omega) | exact decide_eq_false (by omega) | exact decide_eq_true (by omega) | (symm; first | exact decide_eq_false (by omega) | exact decide_eq_true (by omega)) | (rw [Bool.eq_iff_iff]; simp only [Bool.not_eq_true', Bool.not_eq_false', Bool.and_eq_true, Bool.or_eq_true, decide_eq_true_eq, decide_eq_false_iff_not, reduceCtorEq, true_iff, iff_true, false_iff, iff_false]; omega))))

/-- The tree is valid and has the node. -/
def goodN (t : List Node) (i : Int) : Bool := treeOk t && decide (0 ≤ i ∧ i ≤ (t.length : Int) - 1)
theorem goodN_iff {t : List Node} {i : Int} : goodN t i = true ↔ treeOk t = true ∧ 0 ≤ i ∧ i.toNat < t.length := by
  simp only [goodN, Bool.and_eq_true, decide_eq_true_eq]
  refine and_congr_right fun _ => ?_
  omega
def cur (l : List Nat) (k : Nat) : Int := match l[k]? with
  | some m => (m : Int)
  | none => -1
theorem cur_at {l : List Nat} {k : Nat} (h : k < l.length) : cur l k = ((l[k] : Nat) : Int) := by simp [cur, h]
theorem cur_end {l : List Nat} : cur l l.length = -1 := by simp [cur]
theorem way_cur {t : List Node} (h : TreeK t) {i : Nat} (hi : i < t.length) {k : Nat} (hk : k < (way t i).length) : ∃ hl : (way t i)[k] < t.length, t[(way t i)[k]].parent = cur (way t i) (k + 1) := by
  by_cases h1 : k + 1 < (way t i).length
  · obtain ⟨a, b⟩ := way_next h i hi k h1
    exact ⟨a, by rw [b, cur_at h1]⟩
  · obtain ⟨a, b⟩ := way_last h i hi
    have e : k = (way t i).length - 1 := by omega
    have e0 : (way t i)[k] = 0 := by simp only [e, b]
    have hlo := h.lo
    have hr := h.root (by omega)
    refine ⟨by omega, ?_⟩
    simp only [e0, hr]
    rw [show k + 1 = (way t i).length by omega, cur_end]
theorem way_take {l : List Nat} {k : Nat} (h : k < l.length) : l.take (k + 1) = l.take k ++ [l[k]] := List.take_succ_eq_append_getElem h
/-- The way up of a number that may be none of a node. -/
def wayOf (t : List Node) (i : Int) : List Nat := if goodN t i = true then way t i.toNat else []

theorem c_wayI (t : List Node) (hL : TreeL t) (i : Int) : ACon Tryz.prog 12 [vTree t, .d (.int .i64 i)] [] (ORows encK 1 (wayOf t i)) := by
  have hL1 := hL.1
  have c1 := c_ValidTree t hL
  cases ht : treeOk t
  · rw [ht] at c1
    have hg : goodN t i = false := by rw [goodN, ht, Bool.false_and]
    refine ACon.introW tok (nt := 31) Tryz.func12 rfl rfl rfl (by kernel_rfl) rfl ?_
    repeat' (first | ((with_reducible apply xsim); (first | ((with_reducible apply xo); exact rfl) | with_reducible apply xend | ((with_reducible apply xguardS); exact rfl; exact rfl) | ((with_reducible apply xbox); exact rfl; simp only [backV, backVs, backVs_mapd, backId, backO, List.map_cons, List.map_nil, List.getElem?_nil, List.length_cons, List.length_nil, Nat.reduceAdd, Nat.reduceSub, List.cons_append, List.nil_append, List.append_nil]) | ((with_reducible apply xcallIs); exact rfl; exact rfl; exact c1; exact rfl))) | ((with_reducible apply xaw); (first | ((with_reducible apply xstepS); refine AW.step tok rfl ?_) | with_reducible (first | refine AW.seq ?_ | refine AW.ret ?_) | ((with_reducible apply xcond); exact rfl))) | with_reducible refine xthen_r ?_ | (with_reducible intro hc; (try simp only [decide_eq_true_eq, decide_eq_false_iff_not, Bool.not_true, Bool.not_false, Bool.not_eq_true', Bool.not_eq_false', ne_eq, not_true, reduceCtorEq, List.length_map] at hc); (try (exfalso; omega))) | with_reducible exact trivial | exact Eq.refl true)
    refine xfinW (Weak.own 4 1 rfl) ?_
    rw [show wayOf t i = [] by rw [wayOf, hg]; rfl]
    (refine xfinOwn [1] (by first | exact .inl rfl | exact .inr rfl) rfl (by repeat' (first | exact trivial | exact rfl | refine And.intro ?_ ?_)) (by decide) rfl ?_ ?_ <;> simp -implicitDefEqProofs only [go_sem, Int.reduceEq, Int.reduceLT, Int.reduceLE, Nat.reduceAdd, Nat.reduceSub, Nat.reduceMul, Nat.reduceEqDiff, Nat.reduceLeDiff, Nat.reducePow, ↓reduceIte, reduceCtorEq])
  rw [ht] at c1
  by_cases hi0 : 0 ≤ i ∧ i ≤ (t.length : Int) - 1
  · have hg : goodN t i = true := by rw [goodN, ht, Bool.true_and]; exact decide_eq_true hi0
    have h := treeK ht
    have hi : i.toNat < t.length := by omega
    have hhi := h.hi
    have hwl := way_len h _ hi
    have hc0 : cur (way t i.toNat) 0 = i := by
      obtain ⟨r, hr⟩ := way_head h hi
      rw [hr]; exact Int.toNat_of_nonneg hi0.1
    rw [show wayOf t i = way t i.toNat by rw [wayOf, if_pos hg]]
    refine ACon.introW tok (nt := 31) Tryz.func12 rfl rfl rfl (by kernel_rfl) rfl ?_
    repeat' (first | ((with_reducible apply xsim); (first | ((with_reducible apply xlenM); exact rfl; exact rfl) | ((with_reducible apply xo); exact rfl) | with_reducible apply xend | ((with_reducible apply xguardS); exact rfl; exact rfl) | ((with_reducible apply xbox); exact rfl; simp only [backV, backVs, backVs_mapd, backId, backO, List.map_cons, List.map_nil, List.getElem?_nil, List.length_cons, List.length_nil, Nat.reduceAdd, Nat.reduceSub, List.cons_append, List.nil_append, List.append_nil]) | ((with_reducible apply xcallIs); exact rfl; exact rfl; (first | exact c1 | exact c_within _ _ _); exact rfl))) | ((with_reducible apply xaw); (first | ((with_reducible apply xstepS); refine AW.step tok rfl ?_) | with_reducible (first | refine AW.seq ?_ | refine AW.block ?_ | refine AW.skip ?_) | ((with_reducible apply xcond); exact rfl))) | with_reducible refine xthen ?_ | (with_reducible intro hc; (try simp only [decide_eq_true_eq, decide_eq_false_iff_not, Bool.not_true, Bool.not_false, Bool.not_eq_true', Bool.not_eq_false', ne_eq, not_true, reduceCtorEq, List.length_map] at hc); (try (exfalso; omega))) | with_reducible (first | exact trivial | refine And.intro ?_ ?_ | exact rfl) | exact Eq.refl true | (refine inR_i64.mpr ?_; first | omega | (simp only [List.length_map, List.length_map]; omega)))
    refine AW.own 5 1 rfl ?_
    refine AW.loop (S := fun k : Nat => ⟨[(1, .d (.int .i64 (cur (way t i.toNat) k))), (2, .oref 0 0), (5, .msl 1 1 0 k)], [.box [.d (.lst (t.map encNode))], .arr 1 (((way t i.toNat).take k).map encK)], 31, 0⟩)
      (Pre := fun k => k ≤ (way t i.toNat).length) (μ := fun k => (way t i.toNat).length - k) 0 (Nat.zero_le _) ?_ ?_
    · (refine xwk (π := [0, 1]) (by decide) rfl ?_ ?_; (first | simp -implicitDefEqProofs only [go_sem, Int.reduceEq, Int.reduceLT, Int.reduceLE, Nat.reduceAdd, Nat.reduceSub, Nat.reduceMul, Nat.reduceEqDiff, Nat.reduceLeDiff, Nat.reducePow, ↓reduceIte, reduceCtorEq, List.take_zero, hc0]); repeat' (first | exact renE_n | ((with_reducible apply renE_c); exact rfl; focus (first | (simp -implicitDefEqProofs only [go_sem, Int.reduceEq, Int.reduceLT, Int.reduceLE, Nat.reduceAdd, Nat.reduceSub, Nat.reduceMul, Nat.reduceEqDiff, Nat.reduceLeDiff, Nat.reducePow, ↓reduceIte, reduceCtorEq, List.take_zero, hc0]; done)))))
    intro k hk
    have hc1 : ((way t i.toNat).take k).length = k := by simp; omega
    by_cases hlt : k < (way t i.toNat).length
    · obtain ⟨hm, hn⟩ := way_cur h hi hlt
      have hrow := at_map (f := encNode) hm
      have hs := way_take hlt
      rw [cur_at hlt]
      repeat' (first | ((with_reducible apply xsim); (first | ((with_reducible apply xo); exact rfl) | with_reducible apply xend | ((with_reducible apply xbuild); exact rfl; exact rfl; exact rfl; exact rfl; exact rfl; simp only [backV, backVs, backVs_mapd, backId, backO, List.map_cons, List.map_nil, List.getElem?_nil, List.length_cons, List.length_nil, Nat.reduceAdd, Nat.reduceSub, List.cons_append, List.nil_append, List.append_nil]) | ((with_reducible apply xidxL); exact rfl; exact rfl; exact rfl; (first | exact hrow); omega; first | exact rfl | simp only [hsz]) | simp -implicitDefEqProofs only [go_sem, Int.reduceEq, Int.reduceLT, Int.reduceLE, Nat.reduceAdd, Nat.reduceSub, Nat.reduceMul, Nat.reduceEqDiff, Nat.reduceLeDiff, Nat.reducePow, ↓reduceIte, reduceCtorEq, List.length_map, hc1])) | ((with_reducible apply xaw); (first | ((with_reducible apply xstepS); refine AW.step tok rfl ?_) | ((with_reducible apply xstep); refine AW.region tok rfl ?_) | with_reducible (first | refine AW.seq ?_ | refine AW.block ?_ | refine AW.skip ?_) | ((with_reducible apply xcond); exact rfl))) | with_reducible refine xthen ?_ | (with_reducible intro hc; (try simp only [decide_eq_true_eq, decide_eq_false_iff_not, Bool.not_true, Bool.not_false, Bool.not_eq_true', Bool.not_eq_false', ne_eq, not_true, reduceCtorEq, List.length_map, hc1] at hc); (try (exfalso; omega))) | with_reducible (first | exact trivial | refine And.intro ?_ ?_ | exact rfl) | omega)
      refine round_end (k+1) hlt (by omega) (by (refine xwk (π := [0, 3]) (by decide) rfl ?_ ?_; (first | simp -implicitDefEqProofs only [go_sem, Int.reduceEq, Int.reduceLT, Int.reduceLE, Nat.reduceAdd, Nat.reduceSub, Nat.reduceMul, Nat.reduceEqDiff, Nat.reduceLeDiff, Nat.reducePow, ↓reduceIte, reduceCtorEq, hs, List.map_append, hn]); repeat' (first | exact renE_n | ((with_reducible apply renE_c); exact rfl; focus (first | (simp -implicitDefEqProofs only [go_sem, Int.reduceEq, Int.reduceLT, Int.reduceLE, Nat.reduceAdd, Nat.reduceSub, Nat.reduceMul, Nat.reduceEqDiff, Nat.reduceLeDiff, Nat.reducePow, ↓reduceIte, reduceCtorEq, hs, List.map_append, hn]; done))))))
    have hk' : k = (way t i.toNat).length := by omega
    subst hk'
    rw [cur_end, List.take_length]
    repeat' (first | ((with_reducible apply xsim); (first | ((with_reducible apply xo); exact rfl) | with_reducible apply xend)) | ((with_reducible apply xaw); (first | ((with_reducible apply xstepS); refine AW.step tok rfl ?_) | with_reducible (first | refine AW.seq ?_ | refine AW.ret ?_ | refine AW.exit ?_) | ((with_reducible apply xcond); exact rfl))) | with_reducible (first | refine xthen ?_ | refine xthen_e ?_ | refine xblock_e ?_ | refine xround_e ?_) | (with_reducible intro hc; (try simp only [decide_eq_true_eq, decide_eq_false_iff_not, Bool.not_true, Bool.not_false, Bool.not_eq_true', Bool.not_eq_false', ne_eq, not_true, reduceCtorEq, List.length_map] at hc); (try (exfalso; omega))) | with_reducible (first | exact trivial | refine And.intro ?_ ?_ | exact rfl))
    (refine xfinOwn [1] (by first | exact .inl rfl | exact .inr rfl) rfl (by repeat' (first | exact trivial | exact rfl | refine And.intro ?_ ?_)) (by decide) rfl ?_ ?_ <;> simp -implicitDefEqProofs only [go_sem, Int.reduceEq, Int.reduceLT, Int.reduceLE, Nat.reduceAdd, Nat.reduceSub, Nat.reduceMul, Nat.reduceEqDiff, Nat.reduceLeDiff, Nat.reducePow, ↓reduceIte, reduceCtorEq])
  · have hg : goodN t i = false := by rw [goodN, ht, Bool.true_and]; exact decide_eq_false hi0
    refine ACon.introW tok (nt := 31) Tryz.func12 rfl rfl rfl (by kernel_rfl) rfl ?_
    repeat' (first | ((with_reducible apply xsim); (first | ((with_reducible apply xlenM); exact rfl; exact rfl) | ((with_reducible apply xo); exact rfl) | with_reducible apply xend | ((with_reducible apply xguardS); exact rfl; exact rfl) | ((with_reducible apply xbox); exact rfl; simp only [backV, backVs, backVs_mapd, backId, backO, List.map_cons, List.map_nil, List.getElem?_nil, List.length_cons, List.length_nil, Nat.reduceAdd, Nat.reduceSub, List.cons_append, List.nil_append, List.append_nil]) | ((with_reducible apply xcallIs); exact rfl; exact rfl; (first | exact c1 | exact c_within _ _ _); exact rfl))) | ((with_reducible apply xaw); (first | ((with_reducible apply xstepS); refine AW.step tok rfl ?_) | with_reducible (first | refine AW.seq ?_ | refine AW.ret ?_) | ((with_reducible apply xcond); exact rfl))) | with_reducible refine xthen_r ?_ | (with_reducible intro hc; (try simp only [decide_eq_true_eq, decide_eq_false_iff_not, Bool.not_true, Bool.not_false, Bool.not_eq_true', Bool.not_eq_false', ne_eq, not_true, reduceCtorEq, List.length_map] at hc); (try (exfalso; omega))) | with_reducible (first | exact trivial | refine And.intro ?_ ?_ | exact rfl) | exact Eq.refl true | (refine inR_i64.mpr ?_; first | omega | (simp only [List.length_map, List.length_map]; omega)))
    refine xfinW (Weak.own 4 1 rfl) ?_
    rw [show wayOf t i = [] by rw [wayOf, hg]; rfl]
    (refine xfinOwn [1] (by first | exact .inl rfl | exact .inr rfl) rfl (by repeat' (first | exact trivial | exact rfl | refine And.intro ?_ ?_)) (by decide) rfl ?_ ?_ <;> simp -implicitDefEqProofs only [go_sem, Int.reduceEq, Int.reduceLT, Int.reduceLE, Nat.reduceAdd, Nat.reduceSub, Nat.reduceMul, Nat.reduceEqDiff, Nat.reduceLeDiff, Nat.reducePow, ↓reduceIte, reduceCtorEq])
end Go.Proofs.YticgjepndfjafaaGreat

namespace Go.Fw
theorem xnoblock {P : Program} {i : Nat} {c d : Code} {Q : Exit → St → Prop} {s : St} (h : AW P (.seq (.block i c) d) Q s) : AW P (.seq (.block i c) d) Q s := h
theorem cutW {α : Type} {S : α → St} {Pre : α → Prop} {Q : Exit → St → Prop} {s s' : St} (hw : Weak s s') (h : cutQ S Pre Q .normal s') : cutQ S Pre Q .normal s := by
  obtain ⟨j, hp, hj⟩ := h
  exact ⟨j, hp, hw.trans hj⟩
theorem xnoblockT {P : Program} {i : Nat} {c : Code} {Q : Exit → St → Prop} {s : St} (h : AW P (.block i c) Q s) : AW P (.block i c) Q s := h
theorem AW.cutBT {α : Type} {P : Program} {i : Nat} {c d : Code} {Q : Exit → St → Prop} {s : St} (S : α → St) (Pre : α → Prop) (h1 : AW P c (blockQ i (cutQ S Pre Q)) s) (h2 : ∀ j, Pre j → AW P d Q (S j)) : AW P (.block i c) (thenQ P d Q) s :=
  AW.cutT S Pre (AW.block h1) h2
end Go.Fw

namespace Go.Proofs.YticgjepndfjafaaGreat
open Go.Fw
attribute [local irreducible] Go.Fw.aops Go.Fw.arun

theorem c_partS (n a : Int) (h : 0 ≤ n * a ∧ n * a ≤ 2^40) : ACon Tryz.prog 107 [.d (.int .i64 n), .d (.int .i64 a)] [] (Is (.d (.int .i64 ((n * a).tdiv 1000)))) := by
  have e : 0 ≤ (n * a).tdiv 1000 ∧ (n * a).tdiv 1000 ≤ n * a := by
    rw [Int.tdiv_eq_ediv_of_nonneg h.1]; omega
  refine ACon.introW tok (nt := 9) Tryz.func107 rfl rfl rfl (by kernel_rfl) rfl ?_
  repeat' (first | ((with_reducible apply xsim); (first | ((with_reducible apply xo); exact rfl) | with_reducible apply xend)) | ((with_reducible apply xaw); (first | ((with_reducible apply xstepS); refine AW.step tok rfl ?_) | with_reducible refine AW.ret ?_)) | with_reducible (first | exact trivial | refine And.intro ?_ ?_ | exact rfl) | (refine inR_i64.mpr ?_; first | omega | (simp only [List.length_map]; omega)) | omega)
  all_goals (refine xfinIs (by first | exact .inl rfl | exact .inr rfl) rfl (by repeat' (first | exact trivial | exact rfl | refine And.intro ?_ ?_)) rfl ?_ rfl; first | with_reducible exact rfl)

theorem rel_bd' {n r : Int} (hn : 0 ≤ n) (hr : 0 ≤ r ∧ r ≤ 1000) : 0 ≤ r * n ∧ r * n ≤ n * 1000 ∧ 0 ≤ (r * n).tdiv 1000 ∧ (r * n).tdiv 1000 ≤ n := by
  rw [Int.mul_comm]
  exact rel_bd hn hr

set_option maxHeartbeats 4000000 in
theorem c_placeI (p : Place) (w h : Int) (hp : validPlace p = true) (hw : 0 ≤ w ∧ w ≤ 2^20) (hh : 0 ≤ h ∧ h ≤ 2^20) : ACon Tryz.prog 62 [vPlace p, .d (.int .i64 w), .d (.int .i64 h)] [] (Is (vRect (placed p ⟨0, 0, w, h⟩))) := by
  have hv := validPlace_iff hp
  have ha := anchor_bd (a := p.anchor) (by omega)
  have r1 := rel_bd' (r := p.relX) hw.1 (by omega)
  have r2 := rel_bd' (r := p.relW) hw.1 (by omega)
  have r3 := rel_bd' (r := p.relY) hh.1 (by omega)
  have r4 := rel_bd' (r := p.relH) hh.1 (by omega)
  have p1 := part_bd (n := max (p.w + (p.relW * w).tdiv 1000) 0) (a := p.anchor.tmod 3) (by omega) (by omega)
  have p2 := part_bd (n := max (p.h + (p.relH * h).tdiv 1000) 0) (a := p.anchor.tdiv 3) (by omega) (by omega)
  have e : placed p ⟨0, 0, w, h⟩ = ⟨p.x + (p.relX * w).tdiv 1000 - (max (p.w + (p.relW * w).tdiv 1000) 0 * p.anchor.tmod 3).tdiv 2, p.y + (p.relY * h).tdiv 1000 - (max (p.h + (p.relH * h).tdiv 1000) 0 * p.anchor.tdiv 3).tdiv 2,
      max (p.w + (p.relW * w).tdiv 1000) 0, max (p.h + (p.relH * h).tdiv 1000) 0⟩ := by
    rw [Int.mul_comm p.relX, Int.mul_comm p.relW, Int.mul_comm p.relY, Int.mul_comm p.relH, Int.max_comm _ 0, Int.max_comm _ 0]
    exact rect_ext (by simp [placed]) (by simp [placed]) rfl rfl
  rw [e]
  refine ACon.introW tok (nt := 62) Tryz.func62 rfl rfl rfl (by kernel_rfl) rfl ?_
  repeat' (first | ((with_reducible apply xsim); (first | ((with_reducible apply xbld); exact rfl; exact rfl; exact rfl; (try simp only [List.set_cons_zero, List.set_cons_succ])) | ((with_reducible apply xo); exact rfl) | ((with_reducible apply xst); exact rfl) | with_reducible apply xend | ((with_reducible apply xalloc); exact rfl; simp only [backV, backVs, backVs_mapd, backId, backO, List.map_cons, List.map_nil, List.getElem?_nil, List.length_cons, List.length_nil, Nat.reduceAdd, Nat.reduceSub, List.cons_append, List.nil_append, List.append_nil]) | ((with_reducible apply xbox); exact rfl; simp only [backV, backVs, backVs_mapd, backId, backO, List.map_cons, List.map_nil, List.getElem?_nil, List.length_cons, List.length_nil, Nat.reduceAdd, Nat.reduceSub, List.cons_append, List.nil_append, List.append_nil]))) | ((with_reducible apply xaw); (first | ((with_reducible apply xstepS); refine AW.step tok rfl ?_) | with_reducible (first | refine AW.seq ?_ | refine AW.ret ?_) | ((with_reducible apply xdraw (id := 1)); refine AW.draw (id := 1) (.q 0 (.q 1 (.q 2 (.q 3 (.q 4 (.q 5 (.q 6 (.q 7 (.q 8 (.q 9 (.q 10 (.q 11 (.q 12 (.q 13 (.q 14 (.q 15 (.q 16 (.q 17 (.q 18 (.q 19 (.fin))))))))))))))))))))) tok (by kernel_rfl) rfl (by kernel_rfl) ?_) | ((with_reducible apply xdraw (id := 2)); refine AW.draw (id := 2) (.q 0 (.q 1 (.q 2 (.q 3 (.q 4 (.q 5 (.q 6 (.q 7 (.q 8 (.q 9 (.q 10 (.q 11 (.q 12 (.q 13 (.q 14 (.q 15 (.q 16 (.q 17 (.fin))))))))))))))))))) tok (by kernel_rfl) rfl (by kernel_rfl) ?_) | ((with_reducible apply xdraw (id := 3)); refine AW.draw (id := 3) (.q 0 (.q 1 (.q 2 (.q 3 (.q 4 (.q 5 (.q 6 (.q 7 (.q 8 (.q 9 (.q 10 (.q 11 (.q 12 (.q 13 (.q 14 (.q 15 (.q 16 (.e 17 (.fin))))))))))))))))))) tok (by kernel_rfl) rfl (by kernel_rfl) ?_))) | ((with_reducible apply xarun); (first | ((with_reducible apply xrun_q); exact rfl; exact rfl; exact rfl) | ((with_reducible apply xrun_c); exact rfl; exact rfl; exact rfl; exact rfl; exact rfl; exact rfl; exact c_part _ _ (by omega); exact rfl) | ((with_reducible apply xrun_e); exact rfl) | with_reducible apply xrun_f)) | with_reducible refine xthen ?_ | with_reducible (first | exact trivial | refine And.intro ?_ ?_ | exact rfl) | exact Eq.refl true | (refine inR_i64.mpr ?_; first | omega | (simp only [List.length_map]; omega)) | omega)
  all_goals (refine xfinIs (by first | exact .inl rfl | exact .inr rfl) rfl (by repeat' (first | exact trivial | exact rfl | refine And.intro ?_ ?_)) rfl ?_ rfl; first | (simp -implicitDefEqProofs only [go_sem, Int.reduceEq, Int.reduceLT, Int.reduceLE, Nat.reduceAdd, Nat.reduceSub, Nat.reduceMul, Nat.reduceEqDiff, Nat.reduceLeDiff, Nat.reducePow, ↓reduceIte, reduceCtorEq] <;> (first | rfl | omega | exact decide_eq_decide.2 (by omega) | exact decide_eq_false (by omega) | exact decide_eq_true (by omega) | (symm; first | exact decide_eq_false (by omega) | exact decide_eq_true (by omega)) | (rw [Bool.eq_iff_iff]; simp only [Bool.not_eq_true', Bool.not_eq_false', Bool.and_eq_true, Bool.or_eq_true, decide_eq_true_eq, decide_eq_false_iff_not, reduceCtorEq, true_iff, iff_true, false_iff, iff_false]; omega))))

set_option maxHeartbeats 4000000 in
theorem c_placeS (p : Place) (r : Rect) (hp : validPlace p = true) (hr : RectIn r) : ACon Tryz.prog 74 [vPlace p, vRect r] [] (Is (vRect (placed p r))) := by
  have hv := validPlace_iff hp
  have ha := anchor_bd (a := p.anchor) (by omega)
  obtain ⟨b1, b2, b3, b4, b5, b6⟩ := hr
  have r1 := rel_bd (n := r.w) (r := p.relX) b3 (by omega)
  have r2 := rel_bd (n := r.w) (r := p.relW) b3 (by omega)
  have r3 := rel_bd (n := r.h) (r := p.relY) b4 (by omega)
  have r4 := rel_bd (n := r.h) (r := p.relH) b4 (by omega)
  have p1 := part_bd (n := max 0 (p.w + (r.w * p.relW).tdiv 1000)) (a := p.anchor.tmod 3) (by omega) (by omega)
  have p2 := part_bd (n := max 0 (p.h + (r.h * p.relH).tdiv 1000)) (a := p.anchor.tdiv 3) (by omega) (by omega)
  refine ACon.introW tok (nt := 68) Tryz.func74 rfl rfl rfl (by kernel_rfl) rfl ?_
  repeat' (first | ((with_reducible apply xsim); (first | ((with_reducible apply xbld); exact rfl; exact rfl; exact rfl; (try simp only [List.set_cons_zero, List.set_cons_succ])) | ((with_reducible apply xo); exact rfl) | ((with_reducible apply xst); exact rfl) | with_reducible apply xend | ((with_reducible apply xalloc); exact rfl; simp only [backV, backVs, backVs_mapd, backId, backO, List.map_cons, List.map_nil, List.getElem?_nil, List.length_cons, List.length_nil, Nat.reduceAdd, Nat.reduceSub, List.cons_append, List.nil_append, List.append_nil]) | ((with_reducible apply xbox); exact rfl; simp only [backV, backVs, backVs_mapd, backId, backO, List.map_cons, List.map_nil, List.getElem?_nil, List.length_cons, List.length_nil, Nat.reduceAdd, Nat.reduceSub, List.cons_append, List.nil_append, List.append_nil]))) | ((with_reducible apply xaw); (first | ((with_reducible apply xstepS); refine AW.step tok rfl ?_) | with_reducible (first | refine AW.seq ?_ | refine AW.ret ?_) | ((with_reducible apply xdraw (id := 1)); refine AW.draw (id := 1) (.q 0 (.q 1 (.q 2 (.q 3 (.q 4 (.q 5 (.q 6 (.q 7 (.q 8 (.q 9 (.fin))))))))))) tok (by kernel_rfl) rfl (by kernel_rfl) ?_) | ((with_reducible apply xdraw (id := 2)); refine AW.draw (id := 2) (.q 0 (.q 1 (.q 2 (.q 3 (.q 4 (.q 5 (.q 6 (.q 7 (.q 8 (.q 9 (.fin))))))))))) tok (by kernel_rfl) rfl (by kernel_rfl) ?_) | ((with_reducible apply xdraw (id := 3)); refine AW.draw (id := 3) (.q 0 (.q 1 (.q 2 (.q 3 (.q 4 (.q 5 (.q 6 (.q 7 (.q 8 (.q 9 (.q 10 (.q 11 (.q 12 (.q 13 (.q 14 (.q 15 (.fin))))))))))))))))) tok (by kernel_rfl) rfl (by kernel_rfl) ?_) | ((with_reducible apply xdraw (id := 4)); refine AW.draw (id := 4) (.q 0 (.q 1 (.q 2 (.q 3 (.q 4 (.q 5 (.q 6 (.q 7 (.q 8 (.q 9 (.q 10 (.q 11 (.q 12 (.q 13 (.q 14 (.q 15 (.fin))))))))))))))))) tok (by kernel_rfl) rfl (by kernel_rfl) ?_))) | ((with_reducible apply xarun); (first | ((with_reducible apply xrun_q); exact rfl; exact rfl; exact rfl) | ((with_reducible apply xrun_c); exact rfl; exact rfl; exact rfl; exact rfl; exact rfl; exact rfl; exact c_partS _ _ (by omega); exact rfl) | with_reducible apply xrun_f)) | with_reducible refine xthen ?_ | with_reducible (first | exact trivial | refine And.intro ?_ ?_ | exact rfl) | exact Eq.refl true | (refine inR_i64.mpr ?_; first | omega | (simp only [List.length_map]; omega)) | omega)
  all_goals (refine xfinIs (by first | exact .inl rfl | exact .inr rfl) rfl (by repeat' (first | exact trivial | exact rfl | refine And.intro ?_ ?_)) rfl ?_ rfl; first | (simp -implicitDefEqProofs only [go_sem, Int.reduceEq, Int.reduceLT, Int.reduceLE, Nat.reduceAdd, Nat.reduceSub, Nat.reduceMul, Nat.reduceEqDiff, Nat.reduceLeDiff, Nat.reducePow, ↓reduceIte, reduceCtorEq, placed] <;> (first | rfl | omega | exact decide_eq_decide.2 (by omega) | exact decide_eq_false (by omega) | exact decide_eq_true (by omega) | (symm; first | exact decide_eq_false (by omega) | exact decide_eq_true (by omega)) | (rw [Bool.eq_iff_iff]; simp only [Bool.not_eq_true', Bool.not_eq_false', Bool.and_eq_true, Bool.or_eq_true, decide_eq_true_eq, decide_eq_false_iff_not, reduceCtorEq, true_iff, iff_true, false_iff, iff_false]; omega))))
end Go.Proofs.YticgjepndfjafaaGreat

namespace Go.Proofs.YticgjepndfjafaaGreat
open Go.Fw
attribute [local irreducible] Go.Fw.aops Go.Fw.arun

set_option maxHeartbeats 4000000 in
theorem c_gridded (g : Grid) (r : Rect) (hg : GOk g) (rx : -2^30 < r.x ∧ r.x < 2^30) (ry : -2^30 < r.y ∧ r.y < 2^30) (hw : 0 ≤ r.w ∧ r.w ≤ 16384) (hh : 0 ≤ r.h ∧ r.h ≤ 16384) : ACon Tryz.prog 72 [vGrid g, vRect r] [] (ORows encRect 4 (gridRectsIn g r)) := by
  have hX := hg.xcol hw
  have hY := hg.xrow hh
  have h8 := hg.hi
  have wx := ORows.data (c_wished _ _ hg.cols hg.cspans)
  have wy := ORows.data (c_wished _ _ hg.rows hg.rspans)
  have cx := ORows.data (c_sized _ _ r.w hg.cols (requests_ge hg.cols hg.cspans) hw)
  have cy := ORows.data (c_sized _ _ r.h hg.rows (requests_ge hg.rows hg.rspans) hh)
  have he : gridRectsIn g r = g.cells.map (cellRect (colSizes g r.w) (rowSizes g r.h) r) := rfl
  rw [he]
  rw [show sizes g.cols (requests g.cols (colSpans g.cells)) r.w = colSizes g r.w from rfl] at cx
  rw [show sizes g.rows (requests g.rows (rowSpans g.cells)) r.h = rowSizes g r.h from rfl] at cy
  generalize colSizes g r.w = xs at *
  generalize rowSizes g r.h = ys at *
  have hml : (g.cells.map (cellRect xs ys r)).length = g.cells.length := by simp
  have hxl := hX.len
  have hyl := hY.len
  have hc5 := hX.hi
  have hr5 := hY.hi
  refine ACon.introW tok (nt := 139) Tryz.func72 rfl rfl rfl (by kernel_rfl) rfl ?_
  repeat' (first | ((with_reducible apply xsim); (first | ((with_reducible apply xo); exact rfl) | with_reducible apply xend | ((with_reducible apply xbox); exact rfl; simp only [backV, backVs, backVs_mapd, backId, backO, List.map_cons, List.map_nil, List.getElem?_nil, List.length_cons, List.length_nil, Nat.reduceAdd, Nat.reduceSub, List.cons_append, List.nil_append, List.append_nil]) | ((with_reducible apply xbuild); exact rfl; exact rfl; exact rfl; exact rfl; exact rfl; simp only [backV, backVs, backVs_mapd, backId, backO, List.map_cons, List.map_nil, List.getElem?_nil, List.length_cons, List.length_nil, Nat.reduceAdd, Nat.reduceSub, List.cons_append, List.nil_append, List.append_nil]))) | ((with_reducible apply xaw); (first | ((with_reducible apply xstepS); refine AW.step tok rfl ?_) | with_reducible (first | refine AW.seq ?_ | refine AW.block ?_) | ((with_reducible apply xdraw (id := 1)); refine AW.draw (id := 1) (.q 0 (.q 1 (.q 2 (.q 3 (.q 4 (.q 5 (.q 6 (.q 7 (.q 8 (.q 9 (.q 10 (.fin)))))))))))) tok (by kernel_rfl) rfl (by kernel_rfl) ?_) | ((with_reducible apply xdraw (id := 2)); refine AW.draw (id := 2) (.q 0 (.q 1 (.q 2 (.q 3 (.q 4 (.q 5 (.q 6 (.q 7 (.q 8 (.q 9 (.q 10 (.fin)))))))))))) tok (by kernel_rfl) rfl (by kernel_rfl) ?_))) | ((with_reducible apply xarun); (first | ((with_reducible apply xrun_q); exact rfl; exact rfl; exact rfl) | ((with_reducible apply xrun_c); exact rfl; exact rfl; exact rfl; exact rfl; exact rfl; exact rfl; (first | exact c_colSpansS g hg | exact c_rowSpansS g hg | exact wx | exact wy | exact cx | exact cy); exact rfl) | with_reducible apply xrun_f)) | with_reducible refine xthen ?_ | with_reducible exact trivial | exact Eq.refl true)
  all_goals
    refine AW.loop (S := fun k : Nat => ⟨[(2, .oref 1 0), (3, .oref 2 0), (5, .d (.lst (xs.map encN))), (6, .d (.lst (ys.map encN))), (7, .msl 0 4 0 k), (8, .d (.int .i64 k))], [.arr 4 (((g.cells.map (cellRect xs ys r)).take k).map encRect), .box [.d (.lst (g.cols.map encLine)), .d (.lst (g.rows.map encLine)), .d (.lst (g.cells.map encCell))], .box [.d (.int .i64 r.x), .d (.int .i64 r.y), .d (.int .i64 r.w), .d (.int .i64 r.h)]], 139, 0⟩)
      (Pre := fun k => k ≤ g.cells.length) (μ := fun k => g.cells.length - k) 0 (Nat.zero_le _) ?_ ?_
    · (refine xwk (π := [2, 0, 1]) (by decide) rfl ?_ ?_; (first | simp -implicitDefEqProofs only [go_sem, Int.reduceEq, Int.reduceLT, Int.reduceLE, Nat.reduceAdd, Nat.reduceSub, Nat.reduceMul, Nat.reduceEqDiff, Nat.reduceLeDiff, Nat.reducePow, ↓reduceIte, reduceCtorEq, List.take_zero, encGrid]); repeat' (first | exact renE_n | ((with_reducible apply renE_c); exact rfl; focus (first | (simp -implicitDefEqProofs only [go_sem, Int.reduceEq, Int.reduceLT, Int.reduceLE, Nat.reduceAdd, Nat.reduceSub, Nat.reduceMul, Nat.reduceEqDiff, Nat.reduceLeDiff, Nat.reducePow, ↓reduceIte, reduceCtorEq, List.take_zero, encGrid]; done)))))
    intro k hk
    have htl : ((g.cells.map (cellRect xs ys r)).take k).length = k := by simp; omega
    by_cases hlt : k < g.cells.length
    · have hrow := at_map (f := encCell) hlt
      have hsu := rects_take (g := g) (xs := xs) (ys := ys) (r := r) hlt
      have hb := hg.ok _ (List.getElem_mem hlt)
      generalize g.cells[k] = c at *
      obtain ⟨hb1, hb2⟩ := hb
      have px := hX.part c.col.toNat c.manyCols.toNat
      have py := hY.part c.row.toNat c.manyRows.toNat
      have sx := hX.sum
      have sy := hY.sum
      have ex : (xs.drop c.col.toNat).take ((c.col + c.manyCols).toNat - c.col.toNat) = slc xs c.col.toNat c.manyCols.toNat := by rw [slc, show (c.col + c.manyCols).toNat - c.col.toNat = c.manyCols.toNat by omega]
      have ey : (ys.drop c.row.toNat).take ((c.row + c.manyRows).toNat - c.row.toNat) = slc ys c.row.toNat c.manyRows.toNat := by rw [slc, show (c.row + c.manyRows).toNat - c.row.toNat = c.manyRows.toNat by omega]
      have s1 := c_total _ (hX.take (k := c.col.toNat))
      have s2 := c_total _ (hY.take (k := c.row.toNat))
      have s3 : ACon Tryz.prog 104 [.d (.lst (((xs.drop c.col.toNat).take ((c.col + c.manyCols).toNat - c.col.toNat)).map encN))] [] (Is (.d (.int .i64 (sumI (slc xs c.col.toNat c.manyCols.toNat))))) := by rw [ex]; exact c_total _ hX.slc
      have s4 : ACon Tryz.prog 104 [.d (.lst (((ys.drop c.row.toNat).take ((c.row + c.manyRows).toNat - c.row.toNat)).map encN))] [] (Is (.d (.int .i64 (sumI (slc ys c.row.toNat c.manyRows.toNat))))) := by rw [ey]; exact c_total _ hY.slc
      have hcr : cellRect xs ys r c = cellIn (inset ⟨r.x + sumI (xs.take c.col.toNat), r.y + sumI (ys.take c.row.toNat), sumI (slc xs c.col.toNat c.manyCols.toNat), sumI (slc ys c.row.toNat c.manyRows.toNat)⟩ c.padX c.padY) c := rfl
      rw [hcr] at hsu
      have s5 := c_insetS ⟨r.x + sumI (xs.take c.col.toNat), r.y + sumI (ys.take c.row.toNat), sumI (slc xs c.col.toNat c.manyCols.toNat), sumI (slc ys c.row.toNat c.manyRows.toNat)⟩ c.padX c.padY (by constructor <;> dsimp only <;> omega) px.2.1 py.2.1 (by omega) (by omega)
      have s6 := inset_bd (r := ⟨r.x + sumI (xs.take c.col.toNat), r.y + sumI (ys.take c.row.toNat), sumI (slc xs c.col.toNat c.manyCols.toNat), sumI (slc ys c.row.toNat c.manyRows.toNat)⟩) (px := c.padX) (py := c.padY) px.2.1 py.2.1 (by omega) (by omega)
      generalize inset ⟨r.x + sumI (xs.take c.col.toNat), r.y + sumI (ys.take c.row.toNat), sumI (slc xs c.col.toNat c.manyCols.toNat), sumI (slc ys c.row.toNat c.manyRows.toNat)⟩ c.padX c.padY = q at *
      dsimp only at s6
      have b1 := stuck_bd (room := q.w) (size := c.w) (a := bitL c.stick) (b := bitR c.stick) (by omega) (by omega)
      have b2 := stuck_bd (room := q.h) (size := c.h) (a := bitT c.stick) (b := bitB c.stick) (by omega) (by omega)
      have s7 := c_stuckS q.x q.w c.w (bitL c.stick) (bitR c.stick) (by omega) (by omega) (by omega)
      have s8 := c_stuckS q.y q.h c.h (bitT c.stick) (bitB c.stick) (by omega) (by omega) (by omega)
      simp only [cellIn] at hsu
      have e1 := tdiv_bd (a := c.stick) (m := 2) (by omega) (by omega)
      have e2 := tdiv_bd (a := c.stick) (m := 4) (by omega) (by omega)
      have e3 := tdiv_bd (a := c.stick) (m := 8) (by omega) (by omega)
      have e4 := tmod_bd (a := c.stick) (m := 2) (by omega) (by omega)
      have e5 := tmod_bd (a := c.stick.tdiv 2) (m := 2) (by omega) (by omega)
      have e6 := tmod_bd (a := c.stick.tdiv 4) (m := 2) (by omega) (by omega)
      repeat' (first | ((with_reducible apply xsim); (first | ((with_reducible apply xbld); exact rfl; exact rfl; exact rfl; (try simp only [List.set_cons_zero, List.set_cons_succ])) | ((with_reducible apply xlenM); exact rfl; exact rfl) | ((with_reducible apply xo); exact rfl) | ((with_reducible apply xst); exact rfl) | with_reducible apply xend | ((with_reducible apply xalloc); exact rfl; simp only [backV, backVs, backVs_mapd, backId, backO, List.map_cons, List.map_nil, List.getElem?_nil, List.length_cons, List.length_nil, Nat.reduceAdd, Nat.reduceSub, List.cons_append, List.nil_append, List.append_nil]) | ((with_reducible apply xbuild); exact rfl; exact rfl; exact rfl; exact rfl; exact rfl; simp only [backV, backVs, backVs_mapd, backId, backO, List.map_cons, List.map_nil, List.getElem?_nil, List.length_cons, List.length_nil, Nat.reduceAdd, Nat.reduceSub, List.cons_append, List.nil_append, List.append_nil]) | ((with_reducible apply xidxL); exact rfl; exact rfl; exact rfl; (first | exact hrow); omega; first | exact rfl | simp only [hsz]) | ((with_reducible apply xslcHi); exact rfl; exact rfl; exact rfl; exact (fun r hr => by obtain ⟨a, _, rfl⟩ := List.mem_map.1 hr; rfl); first | omega | (simp only [List.length_cons, List.length_nil]; omega)) | ((with_reducible apply xslcB); exact rfl; exact rfl; exact rfl; exact rfl; exact (fun r hr => by obtain ⟨a, _, rfl⟩ := List.mem_map.1 hr; rfl); first | omega | (simp only [List.length_cons, List.length_nil]; omega)) | ((with_reducible apply xcallIs); exact rfl; exact rfl; (first | exact s1 | exact s2 | exact s3 | exact s4 | exact s5 | exact s7 | exact s8); exact rfl) | simp -implicitDefEqProofs only [go_sem, Int.reduceEq, Int.reduceLT, Int.reduceLE, Nat.reduceAdd, Nat.reduceSub, Nat.reduceMul, Nat.reduceEqDiff, Nat.reduceLeDiff, Nat.reducePow, ↓reduceIte, reduceCtorEq, List.length_map, htl])) | ((with_reducible apply xaw); (first | ((with_reducible apply xstepS); refine AW.step tok rfl ?_) | ((with_reducible apply xstep); refine AW.region tok rfl ?_) | with_reducible (first | refine AW.seq ?_ | refine AW.block ?_ | refine AW.skip ?_) | ((with_reducible apply xcond); exact rfl) | ((with_reducible apply xdraw (id := 8)); refine AW.draw (id := 8) (.q 0 (.q 1 (.q 2 (.q 3 (.q 4 (.q 5 (.q 6 (.q 7 (.q 8 (.q 9 (.q 10 (.q 11 (.q 12 (.q 13 (.q 14 (.q 15 (.q 16 (.q 17 (.q 18 (.q 19 (.q 20 (.q 21 (.q 22 (.q 23 (.q 24 (.q 25 (.q 26 (.q 27 (.q 28 (.q 29 (.q 30 (.q 31 (.q 32 (.q 33 (.q 34 (.q 35 (.q 36 (.e 37 (.e 38 (.fin)))))))))))))))))))))))))))))))))))))))) tok (by kernel_rfl) rfl (by kernel_rfl) ?_))) | ((with_reducible apply xarun); (first | ((with_reducible apply xrun_q); exact rfl; exact rfl; exact rfl) | ((with_reducible apply xrun_c); exact rfl; exact rfl; exact rfl; exact rfl; exact rfl; exact rfl; (first | exact s1 | exact s2 | exact s3 | exact s4 | exact s5 | exact s7 | exact s8); exact rfl) | ((with_reducible apply xrun_e); exact rfl) | with_reducible apply xrun_f)) | with_reducible refine xthen ?_ | (with_reducible intro hc; (try simp only [decide_eq_true_eq, decide_eq_false_iff_not, Bool.not_true, Bool.not_false, Bool.not_eq_true', Bool.not_eq_false', ne_eq, not_true, reduceCtorEq, List.length_map, htl] at hc); (try (exfalso; omega))) | with_reducible (first | exact trivial | refine And.intro ?_ ?_ | exact rfl) | exact Eq.refl true | (refine inR_i64.mpr ?_; first | omega | (simp only [List.length_map, List.length_map, htl]; omega)) | omega)
      all_goals refine round_end (k+1) hlt (by omega) (by (refine xwk (π := [7, 1, 2]) (by decide) rfl ?_ ?_; (first | simp -implicitDefEqProofs only [go_sem, Int.reduceEq, Int.reduceLT, Int.reduceLE, Nat.reduceAdd, Nat.reduceSub, Nat.reduceMul, Nat.reduceEqDiff, Nat.reduceLeDiff, Nat.reducePow, ↓reduceIte, reduceCtorEq, hsu, List.map_append]); repeat' (first | exact renE_n | ((with_reducible apply renE_c); exact rfl; focus (first | (simp -implicitDefEqProofs only [go_sem, Int.reduceEq, Int.reduceLT, Int.reduceLE, Nat.reduceAdd, Nat.reduceSub, Nat.reduceMul, Nat.reduceEqDiff, Nat.reduceLeDiff, Nat.reducePow, ↓reduceIte, reduceCtorEq, hsu, List.map_append]; done))))))
    · have hk' : k = g.cells.length := by omega
      subst hk'
      have hta : (g.cells.map (cellRect xs ys r)).take g.cells.length = g.cells.map (cellRect xs ys r) := by rw [← hml, List.take_length]
      repeat' (first | ((with_reducible apply xsim); (first | ((with_reducible apply xlenM); exact rfl; exact rfl) | ((with_reducible apply xo); exact rfl) | with_reducible apply xend)) | ((with_reducible apply xaw); (first | ((with_reducible apply xstepS); refine AW.step tok rfl ?_) | with_reducible (first | refine AW.seq ?_ | refine AW.ret ?_ | refine AW.exit ?_) | ((with_reducible apply xcond); exact rfl))) | with_reducible (first | refine xthen ?_ | refine xthen_e ?_ | refine xblock_e ?_ | refine xround_e ?_) | (with_reducible intro hc; (try simp only [decide_eq_true_eq, decide_eq_false_iff_not, Bool.not_true, Bool.not_false, Bool.not_eq_true', Bool.not_eq_false', ne_eq, not_true, reduceCtorEq, List.length_map] at hc); (try (exfalso; omega))) | with_reducible (first | exact trivial | refine And.intro ?_ ?_ | exact rfl))
      (refine xfinOwn [0] (by first | exact .inl rfl | exact .inr rfl) rfl (by repeat' (first | exact trivial | exact rfl | refine And.intro ?_ ?_)) (by decide) rfl ?_ ?_ <;> simp -implicitDefEqProofs only [go_sem, Int.reduceEq, Int.reduceLT, Int.reduceLE, Nat.reduceAdd, Nat.reduceSub, Nat.reduceMul, Nat.reduceEqDiff, Nat.reduceLeDiff, Nat.reducePow, ↓reduceIte, reduceCtorEq, hta, hml])
end Go.Proofs.YticgjepndfjafaaGreat

namespace Go.Proofs.YticgjepndfjafaaGreat
open Go.Fw
attribute [local irreducible] Go.Fw.aops Go.Fw.arun

/-- Nodes whose parents lie ahead of a node, and some of its kids. -/
def doneK (t : List Node) (i m : Nat) (j : Nat) : Bool := decide ((nodeAt t j).parent < (i : Int)) || ((kids t i).take m).contains j
section
variable {t : List Node} {w h : Int} {out : List Rect}
theorem doneK_self (hk : TreeK t) {i : Nat} (hi : i < t.length) : doneK t i 0 i = true := by
  unfold doneK
  rw [nodeAt_eq hi, Bool.or_eq_true, decide_eq_true_eq]
  left
  by_cases h0 : i = 0
  · subst h0; have := hk.root hi; omega
  · have := hk.up i hi (by omega); omega
theorem doneK_step {i m : Nat} (hm : m < (kids t i).length) : lay t w h (fun j => doneK t i m j || decide (j = (kids t i)[m])) out = lay t w h (doneK t i (m + 1)) out := by
  refine lay_congr fun j _ => ?_
  unfold doneK
  rw [List.take_succ_eq_append_getElem hm, Bool.or_assoc]
  congr 1
  rw [Bool.eq_iff_iff]
  simp only [Bool.or_eq_true, decide_eq_true_eq, List.contains_iff_mem]
  rw [List.mem_append, List.mem_singleton]
theorem doneK_all {i : Nat} (hl : out.length = t.length) : lay t w h (doneK t i (kids t i).length) out = lay t w h (doneK t (i + 1) 0) out := by
  refine lay_congr fun j hj => ?_
  unfold doneK
  rw [List.take_length, List.take_zero, Bool.eq_iff_iff]
  simp only [Bool.or_eq_true, decide_eq_true_eq, List.contains_iff_mem, mem_kids, List.not_mem_nil, or_false]
  constructor
  · rintro (h1 | ⟨_, h1⟩) <;> omega
  · intro h1
    by_cases h2 : (nodeAt t j).parent < (i : Int)
    · exact .inl h2
    · exact .inr ⟨by omega, by omega⟩
end
def zeroR : Rect := ⟨0, 0, 0, 0⟩
theorem lay_start {t : List Node} (hk : TreeK t) {w h : Int} : (List.replicate t.length zeroR).set 0 ⟨0, 0, w, h⟩ = lay t w h (doneK t 0 0) (List.replicate t.length zeroR) := by
  have e := lay_set (t := t) (w := w) (h := h) (A := fun _ => false) (out := List.replicate t.length zeroR) (k := 0)
  rw [lay_none fun _ _ => rfl, rectAt_zero] at e
  rw [e]
  refine lay_congr fun j hj => ?_
  have hj : j < t.length := by simpa using hj
  unfold doneK
  rw [nodeAt_eq hj]
  rw [List.take_zero, Bool.eq_iff_iff]
  simp only [Bool.false_or, decide_eq_true_eq, List.contains_nil, Bool.or_false]
  by_cases h0 : j = 0
  · subst h0; have := hk.root hj; constructor <;> intro _ <;> first | omega | rfl
  · have := hk.up j hj (by omega)
    constructor <;> intro _ <;> omega
theorem lay_end {t : List Node} (hk : TreeK t) {w h : Int} {out : List Rect} (hl : out.length = t.length) : lay t w h (doneK t t.length 0) out = layoutOf t w h := by
  refine lay_all hl fun j hj => ?_
  unfold doneK
  rw [nodeAt_eq hj, Bool.or_eq_true, decide_eq_true_eq]
  left
  by_cases h0 : j = 0
  · subst h0; have := hk.root hj; omega
  · have := hk.up j hj (by omega); omega
theorem laymap_at {t : List Node} {w h : Int} {A : Nat → Bool} {out : List Rect} {k : Nat} (hk : k < out.length) (ha : A k = true) : ((lay t w h A out).map encRect)[k]? = some (encRect (rectAt t w h k)) := by
  rw [List.getElem?_map, lay_at hk ha]; rfl

/-- The rectangles of kids as places tell. -/
theorem placed_take {t : List Node} {ks : List Nat} {r : Rect} {k : Nat} (h : k < ks.length) : (ks.map fun m => placed (nodeAt t m).place r).take (k + 1) = (ks.map fun m => placed (nodeAt t m).place r).take k ++ [placed (nodeAt t ks[k]).place r] := by
  rw [List.take_succ_eq_append_getElem (by simp; exact h)]; simp

set_option maxRecDepth 8000 in
set_option maxHeartbeats 8000000 in
theorem c_Alayout (t : List Node) (hk : TreeK t) (w h : Int) (hw : 0 ≤ w ∧ w ≤ 400) (hh : 0 ≤ h ∧ h ≤ 400) : ACon Tryz.prog 39 [vTree t, .d (.int .i64 w), .d (.int .i64 h)] [] (ORows encRect 4 (layoutOf t w h)) := by
  have hlo := hk.lo; have hhi := hk.hi
  have hst := lay_start hk (w := w) (h := h)
  have hrep : List.replicate t.length (encRect zeroR) = (List.replicate t.length zeroR).map encRect := by rw [List.map_replicate]
  have hz : (List.replicate t.length [D.int .i64 0, D.int .i64 0, D.int .i64 0, D.int .i64 0])[0]? = some [D.int .i64 0, D.int .i64 0, D.int .i64 0, D.int .i64 0] := by rw [List.getElem?_replicate, if_pos (show 0 < t.length from hlo)]
  have hst2 : (lay t w h (doneK t 0 0) (List.replicate t.length zeroR)).map encRect = (List.replicate t.length [D.int .i64 0, D.int .i64 0, D.int .i64 0, D.int .i64 0]).set 0 [D.int .i64 0, D.int .i64 0, D.int .i64 w, D.int .i64 h] := by rw [← hst, List.map_set, List.map_replicate]; rfl
  refine ACon.introW tok (nt := 125) Tryz.func39 rfl rfl rfl (by kernel_rfl) rfl ?_
  repeat' (first | ((with_reducible apply xsim); (first | ((with_reducible apply xbld); exact rfl; exact rfl; exact rfl; (try simp only [List.set_cons_zero, List.set_cons_succ])) | ((with_reducible apply xlenM); exact rfl; exact rfl) | ((with_reducible apply xo); exact rfl) | with_reducible apply xend | ((with_reducible apply xbox); exact rfl; simp only [backV, backVs, backVs_mapd, backId, backO, List.map_cons, List.map_nil, List.getElem?_nil, List.length_cons, List.length_nil, Nat.reduceAdd, Nat.reduceSub, List.cons_append, List.nil_append, List.append_nil]) | ((with_reducible apply xidxM); exact rfl; exact rfl; exact rfl; omega; omega; exact rfl) | ((with_reducible apply xstA); exact rfl; exact rfl; exact rfl; exact rfl; (first | exact hz); exact rfl; exact rfl; exact rfl; exact rfl; (try simp only [List.set_cons_zero, List.set_cons_succ, List.length_map])) | simp -implicitDefEqProofs only [go_sem, Int.reduceEq, Int.reduceLT, Int.reduceLE, Nat.reduceAdd, Nat.reduceSub, Nat.reduceMul, Nat.reduceEqDiff, Nat.reduceLeDiff, Nat.reducePow, ↓reduceIte, reduceCtorEq, List.length_map])) | ((with_reducible apply xaw); (first | ((with_reducible apply xstepS); refine AW.step tok rfl ?_) | with_reducible (first | refine AW.seq ?_ | refine AW.block ?_))) | with_reducible (first | exact trivial | refine And.intro ?_ ?_) | omega)
  refine AW.loop (S := fun i : Nat => ⟨[(3, .oref 0 0), (7, .msl 1 4 0 t.length), (27, .d (.lst (t.map encNode))), (28, .d (.int .i64 t.length)), (29, .d (.int .i64 i))], [.box [.d (.lst (t.map encNode))], .arr 4 ((lay t w h (doneK t i 0) (List.replicate t.length zeroR)).map encRect)], 125, 0⟩)
    (Pre := fun i => i ≤ t.length) (μ := fun i => t.length - i) 0 (Nat.zero_le _) ?_ ?_
  · (refine xwk (π := [0, 1]) (by decide) rfl ?_ ?_; (first | simp -implicitDefEqProofs only [go_sem, Int.reduceEq, Int.reduceLT, Int.reduceLE, Nat.reduceAdd, Nat.reduceSub, Nat.reduceMul, Nat.reduceEqDiff, Nat.reduceLeDiff, Nat.reducePow, ↓reduceIte, reduceCtorEq, hst2, Int.toNat_zero]); repeat' (first | exact renE_n | ((with_reducible apply renE_c); exact rfl; focus (first | (simp -implicitDefEqProofs only [go_sem, Int.reduceEq, Int.reduceLT, Int.reduceLE, Nat.reduceAdd, Nat.reduceSub, Nat.reduceMul, Nat.reduceEqDiff, Nat.reduceLeDiff, Nat.reducePow, ↓reduceIte, reduceCtorEq, hst2, Int.toNat_zero]; done)))))
  intro i hi
  by_cases hlt : i < t.length
  · have hrow := at_map (f := encNode) hlt
    have hri := laymap_at (t := t) (w := w) (h := h) (A := doneK t i 0) (out := List.replicate t.length zeroR) (k := i) (by rw [List.length_replicate]; exact hlt) (doneK_self hk hlt)
    have hb := rect_bd hk hw hh i hlt
    have hrm := fun m (hm : m < (kids t i).length) => rectAt_kid hk (w := w) (v := h) hm
    generalize hr : rectAt t w h i = r at *
    have hin := hb.in (by omega)
    obtain ⟨b1, b2, b3, b4⟩ := hb
    have hkl : (kids t i).length ≤ 10 := by have := kids_len t i t.length; unfold kids; omega
    have hks : ∀ k ∈ kids t i, k < t.length := fun k hk' => (hk.kid hk').1
    have c1 := c_kidsI t hk i
    have c2 := ORows.data (c_packsI t hk _ hks hkl fun k hk' => c_request t hk k (hks k hk'))
    have c3 := c_gridI t hk i hlt _ hks hkl fun k hk' => c_request t hk k (hks k hk')
    have c4 := ORows.data (c_packRects (itemsOf t (kids t i)) r.w r.h (by omega) (by omega) (items_ok hk i).1 (items_ok hk i).2)
    have hkd := (nodeOk_iff (hk.ok i hlt)).1
    have hkr : kidRects t i (org r) = if t[i].kind = 0 then packed (itemsOf t (kids t i)) ⟨0, 0, r.w, r.h⟩ else if t[i].kind = 1 then gridRectsIn (gridOf t i (kids t i)) ⟨0, 0, r.w, r.h⟩ else (kids t i).map fun k => placed (nodeAt t k).place ⟨0, 0, r.w, r.h⟩ := by
      rw [← nodeAt_eq hlt]; rfl
    repeat' ((fail_if_success (with_reducible first | apply xnoblock | apply xnoblockT)); first | ((with_reducible apply xsim); (first | ((with_reducible apply xo); exact rfl) | with_reducible apply xend)) | ((with_reducible apply xaw); (first | ((with_reducible apply xstepS); refine AW.step tok rfl ?_) | with_reducible (first | refine AW.seq ?_ | refine AW.skip ?_) | ((with_reducible apply xcond); exact rfl))) | with_reducible refine xthen ?_ | (with_reducible intro hc; (try simp only [decide_eq_true_eq, decide_eq_false_iff_not, Bool.not_true, Bool.not_false, Bool.not_eq_true', Bool.not_eq_false', ne_eq, not_true, reduceCtorEq, List.length_map] at hc); (try (exfalso; omega))) | with_reducible (first | exact trivial | refine And.intro ?_ ?_ | exact rfl))
    refine AW.seq ?_
    refine AW.block ?_
    repeat' ((fail_if_success (with_reducible first | apply xnoblock | apply xnoblockT)); first | ((with_reducible apply xsim); (first | ((with_reducible apply xo); exact rfl) | ((with_reducible apply xst); exact rfl) | with_reducible apply xend | ((with_reducible apply xalloc); exact rfl; simp only [backV, backVs, backVs_mapd, backId, backO, List.map_cons, List.map_nil, List.getElem?_nil, List.length_cons, List.length_nil, Nat.reduceAdd, Nat.reduceSub, List.cons_append, List.nil_append, List.append_nil]) | ((with_reducible apply xidxL); exact rfl; exact rfl; exact rfl; (first | exact hrow | exact hri); omega; first | exact rfl | simp only [hsz]) | ((with_reducible apply xidxM); exact rfl; exact rfl; exact rfl; omega; omega; exact rfl) | ((with_reducible apply xldA); exact rfl; exact rfl; exact rfl; (first | exact hrow | exact hri); exact rfl))) | ((with_reducible apply xaw); (first | ((with_reducible apply xstepS); refine AW.step tok rfl ?_) | with_reducible refine AW.seq ?_ | ((with_reducible apply xdraw (id := 6)); refine AW.draw (id := 6) (.q 0 (.q 1 (.q 2 (.q 3 (.q 4 (.q 5 (.q 6 (.e 7 (.q 8 (.e 9 (.fin))))))))))) tok (by kernel_rfl) rfl (by kernel_rfl) ?_))) | ((with_reducible apply xarun); (first | ((with_reducible apply xrun_q); exact rfl; exact rfl; exact rfl) | ((with_reducible apply xrun_c); exact rfl; exact rfl; exact rfl; exact rfl; exact rfl; exact rfl; exact c1; exact rfl) | ((with_reducible apply xrun_e); exact rfl) | with_reducible apply xrun_f)) | with_reducible refine xthen ?_ | with_reducible (first | exact trivial | refine And.intro ?_ ?_) | exact Eq.refl true)
    refine AW.cutBT (S := fun _ : Unit => ⟨[(3, .oref 0 0), (7, .msl 1 4 0 t.length), (10, .d (.lst ((kids t i).map encK))), (11, .oref 2 0), (12, .d (.lst ((kidRects t i (org r)).map encRect))), (27, .d (.lst (t.map encNode))), (28, .d (.int .i64 t.length)), (29, .d (.int .i64 i))],
      [.box [.d (.lst (t.map encNode))], .arr 4 ((lay t w h (doneK t i 0) (List.replicate t.length zeroR)).map encRect), .box ((encRect r).map .d)], 125, 0⟩) (Pre := fun _ => True) ?_ ?_
    · by_cases hk0 : t[i].kind = 0
      · rw [if_pos hk0] at hkr
        repeat' (first | ((with_reducible apply xsim); (first | ((with_reducible apply xo); exact rfl) | with_reducible apply xend)) | ((with_reducible apply xaw); (first | ((with_reducible apply xstepS); refine AW.step tok rfl ?_) | ((with_reducible apply xcond); exact rfl) | ((with_reducible apply xdraw (id := 15)); refine AW.draw (id := 15) (.q 0 (.q 1 (.q 2 (.q 3 (.q 4 (.q 5 (.q 6 (.q 7 (.q 8 (.fin)))))))))) tok (by kernel_rfl) rfl (by kernel_rfl) ?_))) | ((with_reducible apply xarun); (first | ((with_reducible apply xrun_q); exact rfl; exact rfl; exact rfl) | ((with_reducible apply xrun_c); exact rfl; exact rfl; exact rfl; exact rfl; exact rfl; exact rfl; (first | exact c2 | exact c4); exact rfl) | with_reducible apply xrun_f)) | with_reducible refine xblock ?_ | (with_reducible intro hc; (try simp only [decide_eq_true_eq, decide_eq_false_iff_not, Bool.not_true, Bool.not_false, Bool.not_eq_true', Bool.not_eq_false', ne_eq, not_true, reduceCtorEq, List.length_map] at hc); (try (exfalso; omega))) | with_reducible (first | exact trivial | refine And.intro ?_ ?_ | exact rfl) | exact Eq.refl true)
        refine cut_end () trivial (by (refine xwk (π := [0, 1, 3]) (by decide) rfl ?_ ?_; (first | simp -implicitDefEqProofs only [go_sem, Int.reduceEq, Int.reduceLT, Int.reduceLE, Nat.reduceAdd, Nat.reduceSub, Nat.reduceMul, Nat.reduceEqDiff, Nat.reduceLeDiff, Nat.reducePow, ↓reduceIte, reduceCtorEq, hkr]); repeat' (first | exact renE_n | ((with_reducible apply renE_c); exact rfl; focus (first | (simp -implicitDefEqProofs only [go_sem, Int.reduceEq, Int.reduceLT, Int.reduceLE, Nat.reduceAdd, Nat.reduceSub, Nat.reduceMul, Nat.reduceEqDiff, Nat.reduceLeDiff, Nat.reducePow, ↓reduceIte, reduceCtorEq, hkr]; done))))))
      · rw [if_neg hk0] at hkr
        by_cases hk1 : t[i].kind = 1
        · rw [if_pos hk1] at hkr
          have c5 := ORows.data (c_rectsI (gridOf t i (kids t i)) r.w r.h (grid_ok hk hlt (by rw [nodeAt_eq hlt]; exact hk1)) (by omega) (by omega))
          repeat' (first | ((with_reducible apply xsim); (first | ((with_reducible apply xo); exact rfl) | with_reducible apply xend)) | ((with_reducible apply xaw); (first | ((with_reducible apply xstepS); refine AW.step tok rfl ?_) | ((with_reducible apply xcond); exact rfl) | ((with_reducible apply xdraw (id := 17)); refine AW.draw (id := 17) (.q 0 (.q 1 (.q 2 (.q 3 (.q 4 (.q 5 (.q 6 (.q 7 (.q 8 (.q 9 (.fin))))))))))) tok (by kernel_rfl) rfl (by kernel_rfl) ?_))) | ((with_reducible apply xarun); (first | ((with_reducible apply xrun_q); exact rfl; exact rfl; exact rfl) | ((with_reducible apply xrun_c); exact rfl; exact rfl; exact rfl; exact rfl; exact rfl; exact rfl; (first | exact c3 | exact c5); exact rfl) | with_reducible apply xrun_f)) | with_reducible refine xblock ?_ | (with_reducible intro hc; (try simp only [decide_eq_true_eq, decide_eq_false_iff_not, Bool.not_true, Bool.not_false, Bool.not_eq_true', Bool.not_eq_false', ne_eq, not_true, reduceCtorEq, List.length_map] at hc); (try (exfalso; omega))) | with_reducible (first | exact trivial | refine And.intro ?_ ?_ | exact rfl) | exact Eq.refl true)
          refine cut_end () trivial (by (refine xwk (π := [0, 1, 3]) (by decide) rfl ?_ ?_; (first | simp -implicitDefEqProofs only [go_sem, Int.reduceEq, Int.reduceLT, Int.reduceLE, Nat.reduceAdd, Nat.reduceSub, Nat.reduceMul, Nat.reduceEqDiff, Nat.reduceLeDiff, Nat.reducePow, ↓reduceIte, reduceCtorEq, hkr]); repeat' (first | exact renE_n | ((with_reducible apply renE_c); exact rfl; focus (first | (simp -implicitDefEqProofs only [go_sem, Int.reduceEq, Int.reduceLT, Int.reduceLE, Nat.reduceAdd, Nat.reduceSub, Nat.reduceMul, Nat.reduceEqDiff, Nat.reduceLeDiff, Nat.reducePow, ↓reduceIte, reduceCtorEq, hkr]; done))))))
        · rw [if_neg hk1] at hkr
          repeat' (first | ((with_reducible apply xsim); (first | ((with_reducible apply xlenM); exact rfl; exact rfl) | ((with_reducible apply xo); exact rfl) | with_reducible apply xend)) | ((with_reducible apply xaw); (first | ((with_reducible apply xstepS); refine AW.step tok rfl ?_) | with_reducible refine AW.block ?_ | ((with_reducible apply xcond); exact rfl))) | (with_reducible intro hc; (try simp only [decide_eq_true_eq, decide_eq_false_iff_not, Bool.not_true, Bool.not_false, Bool.not_eq_true', Bool.not_eq_false', ne_eq, not_true, reduceCtorEq, List.length_map] at hc); (try (exfalso; omega))) | with_reducible (first | exact trivial | refine And.intro ?_ ?_ | exact rfl))
          refine AW.own 12 4 rfl ?_
          refine AW.loop (S := fun m : Nat => ⟨[(3, .oref 0 0), (7, .msl 1 4 0 t.length), (10, .d (.lst ((kids t i).map encK))), (11, .oref 2 0), (12, .msl 3 4 0 m), (27, .d (.lst (t.map encNode))), (28, .d (.int .i64 t.length)), (29, .d (.int .i64 i)), (43, .d (.lst ((kids t i).map encK))), (44, .d (.int .i64 (kids t i).length)), (45, .d (.int .i64 m))],
              [.box [.d (.lst (t.map encNode))], .arr 4 ((lay t w h (doneK t i 0) (List.replicate t.length zeroR)).map encRect), .box ((encRect r).map .d), .arr 4 (((kids t i).map fun k => placed (nodeAt t k).place ⟨0, 0, r.w, r.h⟩).take m |>.map encRect)], 125, 0⟩)
            (Pre := fun m => m ≤ (kids t i).length) (μ := fun m => (kids t i).length - m) 0 (Nat.zero_le _) ?_ ?_
          · (refine xwk (π := [0, 1, 3, 4]) (by decide) rfl ?_ ?_; (first | simp -implicitDefEqProofs only [go_sem, Int.reduceEq, Int.reduceLT, Int.reduceLE, Nat.reduceAdd, Nat.reduceSub, Nat.reduceMul, Nat.reduceEqDiff, Nat.reduceLeDiff, Nat.reducePow, ↓reduceIte, reduceCtorEq, List.take_zero]); repeat' (first | exact renE_n | ((with_reducible apply renE_c); exact rfl; focus (first | (simp -implicitDefEqProofs only [go_sem, Int.reduceEq, Int.reduceLT, Int.reduceLE, Nat.reduceAdd, Nat.reduceSub, Nat.reduceMul, Nat.reduceEqDiff, Nat.reduceLeDiff, Nat.reducePow, ↓reduceIte, reduceCtorEq, List.take_zero]; done)))))
          intro m hm
          have hml : (((kids t i).map fun k => placed (nodeAt t k).place ⟨0, 0, r.w, r.h⟩).take m).length = m := by simp; omega
          by_cases hmt : m < (kids t i).length
          · have hrk := at_map (f := encK) hmt
            have hkm := hks _ (List.getElem_mem hmt)
            have hrn := at_map (f := encNode) hkm
            have hs := placed_take (t := t) (r := ⟨0, 0, r.w, r.h⟩) hmt
            rw [nodeAt_eq hkm] at hs
            have c6 := c_placeI t[(kids t i)[m]].place r.w r.h (nodeOk_iff (hk.ok _ hkm)).2.2.2.1 (by omega) (by omega)
            generalize placed t[(kids t i)[m]].place ⟨0, 0, r.w, r.h⟩ = q at hs c6
            repeat' (first | ((with_reducible apply xsim); (first | ((with_reducible apply xo); exact rfl) | with_reducible apply xend | ((with_reducible apply xbuild); exact rfl; exact rfl; exact rfl; exact rfl; exact rfl; simp only [backV, backVs, backVs_mapd, backId, backO, List.map_cons, List.map_nil, List.getElem?_nil, List.length_cons, List.length_nil, Nat.reduceAdd, Nat.reduceSub, List.cons_append, List.nil_append, List.append_nil]) | ((with_reducible apply xidxL); exact rfl; exact rfl; exact rfl; (first | exact hrk | exact hrn); omega; first | exact rfl | simp only [hsz]) | simp -implicitDefEqProofs only [go_sem, Int.reduceEq, Int.reduceLT, Int.reduceLE, Nat.reduceAdd, Nat.reduceSub, Nat.reduceMul, Nat.reduceEqDiff, Nat.reduceLeDiff, Nat.reducePow, ↓reduceIte, reduceCtorEq, List.length_map, hml])) | ((with_reducible apply xaw); (first | ((with_reducible apply xstepS); refine AW.step tok rfl ?_) | ((with_reducible apply xstep); refine AW.region tok rfl ?_) | with_reducible (first | refine AW.seq ?_ | refine AW.block ?_ | refine AW.skip ?_) | ((with_reducible apply xcond); exact rfl) | ((with_reducible apply xdraw (id := 12)); refine AW.draw (id := 12) (.q 0 (.q 1 (.q 2 (.q 3 (.q 4 (.q 5 (.q 6 (.q 7 (.q 8 (.q 9 (.q 10 (.q 11 (.e 12 (.e 13 (.q 14 (.fin)))))))))))))))) tok (by kernel_rfl) rfl (by kernel_rfl) ?_))) | ((with_reducible apply xarun); (first | ((with_reducible apply xrun_q); exact rfl; exact rfl; exact rfl) | ((with_reducible apply xrun_c); exact rfl; exact rfl; exact rfl; exact rfl; exact rfl; exact rfl; exact c6; exact rfl) | ((with_reducible apply xrun_e); exact rfl))) | with_reducible refine xthen ?_ | (with_reducible intro hc; (try simp only [decide_eq_true_eq, decide_eq_false_iff_not, Bool.not_true, Bool.not_false, Bool.not_eq_true', Bool.not_eq_false', ne_eq, not_true, reduceCtorEq, List.length_map, hml] at hc); (try (exfalso; omega))) | with_reducible (first | exact trivial | refine And.intro ?_ ?_ | exact rfl) | exact Eq.refl true | (refine inR_i64.mpr ?_; first | omega | (simp only [List.length_map, List.length_map, hml]; omega)) | omega)
            refine round_end (m+1) hmt (by omega) (by (refine xwk (π := [0, 1, 2, 5]) (by decide) rfl ?_ ?_; (first | simp -implicitDefEqProofs only [go_sem, Int.reduceEq, Int.reduceLT, Int.reduceLE, Nat.reduceAdd, Nat.reduceSub, Nat.reduceMul, Nat.reduceEqDiff, Nat.reduceLeDiff, Nat.reducePow, ↓reduceIte, reduceCtorEq, hs, List.map_append]); repeat' (first | exact renE_n | ((with_reducible apply renE_c); exact rfl; focus (first | (simp -implicitDefEqProofs only [go_sem, Int.reduceEq, Int.reduceLT, Int.reduceLE, Nat.reduceAdd, Nat.reduceSub, Nat.reduceMul, Nat.reduceEqDiff, Nat.reduceLeDiff, Nat.reducePow, ↓reduceIte, reduceCtorEq, hs, List.map_append]; done))))))
          have hm' : m = (kids t i).length := by omega
          subst hm'
          have hta : ((kids t i).map fun k => placed (nodeAt t k).place ⟨0, 0, r.w, r.h⟩).take (kids t i).length = (kids t i).map fun k => placed (nodeAt t k).place ⟨0, 0, r.w, r.h⟩ := List.take_of_length_le (by simp)
          rw [hta, ← hkr]
          repeat' (first | ((with_reducible apply xsim); (first | ((with_reducible apply xo); exact rfl) | with_reducible apply xend)) | ((with_reducible apply xaw); (first | ((with_reducible apply xstepS); refine AW.step tok rfl ?_) | with_reducible (first | refine AW.seq ?_ | refine AW.exit ?_) | ((with_reducible apply xcond); exact rfl))) | with_reducible (first | refine xthen_e ?_ | refine xblock ?_ | refine xblock_e ?_ | refine xround_e ?_) | (with_reducible intro hc; (try simp only [decide_eq_true_eq, decide_eq_false_iff_not, Bool.not_true, Bool.not_false, Bool.not_eq_true', Bool.not_eq_false', ne_eq, not_true, reduceCtorEq, List.length_map] at hc); (try (exfalso; omega))) | with_reducible (first | exact trivial | refine And.intro ?_ ?_ | exact rfl))
          refine cutW (Weak.freezeA 12 3 4 rfl rfl (by rw [List.length_map, kidRects_len hk])) ?_
          refine cut_end () trivial (by (refine xwk (π := [0, 1, 2]) (by decide) rfl ?_ ?_; (first | simp -implicitDefEqProofs only [go_sem, Int.reduceEq, Int.reduceLT, Int.reduceLE, Nat.reduceAdd, Nat.reduceSub, Nat.reduceMul, Nat.reduceEqDiff, Nat.reduceLeDiff, Nat.reducePow, ↓reduceIte, reduceCtorEq]); repeat' (first | exact renE_n | ((with_reducible apply renE_c); exact rfl; focus (first | (simp -implicitDefEqProofs only [go_sem, Int.reduceEq, Int.reduceLT, Int.reduceLE, Nat.reduceAdd, Nat.reduceSub, Nat.reduceMul, Nat.reduceEqDiff, Nat.reduceLeDiff, Nat.reducePow, ↓reduceIte, reduceCtorEq]; done))))))
    rintro ⟨⟩ -
    have hql := kidRects_len hk (i := i) (org r)
    have hlal : ∀ A, (lay t w h A (List.replicate t.length zeroR)).length = t.length := fun A => by rw [lay_len, List.length_replicate]
    repeat' (first | ((with_reducible apply xsim); (first | ((with_reducible apply xlenM); exact rfl; exact rfl) | ((with_reducible apply xo); exact rfl) | with_reducible apply xend)) | ((with_reducible apply xaw); (first | ((with_reducible apply xstepS); refine AW.step tok rfl ?_) | with_reducible refine AW.block ?_)) | with_reducible exact trivial)
    refine AW.loop (S := fun m : Nat => ⟨[(3, .oref 0 0), (7, .msl 1 4 0 t.length), (11, .oref 2 0), (12, .d (.lst ((kidRects t i (org r)).map encRect))), (27, .d (.lst (t.map encNode))), (28, .d (.int .i64 t.length)), (29, .d (.int .i64 i)), (85, .d (.lst ((kids t i).map encK))), (86, .d (.int .i64 (kids t i).length)), (87, .d (.int .i64 m))],
        [.box [.d (.lst (t.map encNode))], .arr 4 ((lay t w h (doneK t i m) (List.replicate t.length zeroR)).map encRect), .box ((encRect r).map .d)], 125, 0⟩)
      (Pre := fun m => m ≤ (kids t i).length) (μ := fun m => (kids t i).length - m) 0 (Nat.zero_le _) ?_ ?_
    · (refine xwk (π := [0, 1, 2]) (by decide) rfl ?_ ?_; (first | simp -implicitDefEqProofs only [go_sem, Int.reduceEq, Int.reduceLT, Int.reduceLE, Nat.reduceAdd, Nat.reduceSub, Nat.reduceMul, Nat.reduceEqDiff, Nat.reduceLeDiff, Nat.reducePow, ↓reduceIte, reduceCtorEq]); repeat' (first | exact renE_n | ((with_reducible apply renE_c); exact rfl; focus (first | (simp -implicitDefEqProofs only [go_sem, Int.reduceEq, Int.reduceLT, Int.reduceLE, Nat.reduceAdd, Nat.reduceSub, Nat.reduceMul, Nat.reduceEqDiff, Nat.reduceLeDiff, Nat.reducePow, ↓reduceIte, reduceCtorEq]; done)))))
    intro m hm
    by_cases hmt : m < (kids t i).length
    · have hrk := at_map (f := encK) hmt
      have hkm := hks _ (List.getElem_mem hmt)
      have hrq := at_map (f := encRect) (xs := kidRects t i (org r)) (k := m) (by omega)
      have hcell := at_map (f := encRect) (xs := lay t w h (doneK t i m) (List.replicate t.length zeroR)) (k := (kids t i)[m]) (by rw [hlal]; exact hkm)
      have hmv : rectAt t w h (kids t i)[m] = mv r ((kidRects t i (org r))[m]'(by omega)) := by
        rw [hrm m hmt]
        have := kidRects_org t i r
        simp only [this, List.getElem_map]
      have hbk := rect_bd hk hw hh _ hkm
      have hset : ((lay t w h (doneK t i m) (List.replicate t.length zeroR)).map encRect).set (kids t i)[m] (encRect (rectAt t w h (kids t i)[m])) = (lay t w h (doneK t i (m + 1)) (List.replicate t.length zeroR)).map encRect := by
        rw [← List.map_set, lay_set, doneK_step hmt]
      rw [hmv] at hset hbk
      generalize (kidRects t i (org r))[m]'(by omega) = q at *
      generalize (lay t w h (doneK t i m) (List.replicate t.length zeroR))[(kids t i)[m]]'(by rw [hlal]; exact hkm) = z at *
      obtain ⟨a1, a2, a3, a4⟩ := hbk
      simp only [mv] at a1 a2 a3 a4
      simp only [encRect, mv] at hset
      repeat' (first | ((with_reducible apply xsim); (first | ((with_reducible apply xbld); exact rfl; exact rfl; exact rfl; (try simp only [List.set_cons_zero, List.set_cons_succ])) | ((with_reducible apply xo); exact rfl) | with_reducible apply xend | ((with_reducible apply xidxL); exact rfl; exact rfl; exact rfl; (first | exact hrk | exact hrq | exact hcell); omega; first | exact rfl | simp only [hsz]) | ((with_reducible apply xidxM); exact rfl; exact rfl; exact rfl; omega; omega; exact rfl) | ((with_reducible apply xstA); exact rfl; exact rfl; exact rfl; exact rfl; (first | exact hrk | exact hrq | exact hcell); exact rfl; exact rfl; exact rfl; exact rfl; (try simp only [List.set_cons_zero, List.set_cons_succ, List.length_map])))) | ((with_reducible apply xaw); (first | ((with_reducible apply xstepS); refine AW.step tok rfl ?_) | ((with_reducible apply xstep); refine AW.region tok rfl ?_) | with_reducible (first | refine AW.seq ?_ | refine AW.block ?_ | refine AW.skip ?_) | ((with_reducible apply xcond); exact rfl) | ((with_reducible apply xdraw (id := 21)); refine AW.draw (id := 21) (.q 0 (.q 1 (.q 2 (.q 3 (.q 4 (.q 5 (.q 6 (.q 7 (.q 8 (.q 9 (.q 10 (.q 11 (.q 12 (.q 13 (.q 14 (.q 15 (.q 16 (.q 17 (.q 18 (.q 19 (.q 20 (.q 21 (.q 22 (.q 23 (.q 24 (.q 25 (.q 26 (.q 27 (.q 28 (.q 29 (.e 30 (.fin)))))))))))))))))))))))))))))))) tok (by kernel_rfl) rfl (by kernel_rfl) ?_))) | ((with_reducible apply xarun); (first | ((with_reducible apply xrun_q); exact rfl; exact rfl; exact rfl) | ((with_reducible apply xrun_e); exact rfl) | with_reducible apply xrun_f)) | with_reducible (first | refine xthen ?_ | refine xblock ?_) | (with_reducible intro hc; (try simp only [decide_eq_true_eq, decide_eq_false_iff_not, Bool.not_true, Bool.not_false, Bool.not_eq_true', Bool.not_eq_false', ne_eq, not_true, reduceCtorEq, List.length_map] at hc); (try (exfalso; omega))) | with_reducible (first | exact trivial | refine And.intro ?_ ?_ | exact rfl) | (refine inR_i64.mpr ?_; first | omega | (simp only [List.length_map, List.length_map]; omega)))
      refine round_end (m+1) hmt (by omega) (by (refine xwk (π := [0, 1, 2]) (by decide) rfl ?_ ?_; (first | simp -implicitDefEqProofs only [go_sem, Int.reduceEq, Int.reduceLT, Int.reduceLE, Nat.reduceAdd, Nat.reduceSub, Nat.reduceMul, Nat.reduceEqDiff, Nat.reduceLeDiff, Nat.reducePow, ↓reduceIte, reduceCtorEq, hset]); repeat' (first | exact renE_n | ((with_reducible apply renE_c); exact rfl; focus (first | (simp -implicitDefEqProofs only [go_sem, Int.reduceEq, Int.reduceLT, Int.reduceLE, Nat.reduceAdd, Nat.reduceSub, Nat.reduceMul, Nat.reduceEqDiff, Nat.reduceLeDiff, Nat.reducePow, ↓reduceIte, reduceCtorEq, hset]; done))))))
    have hm' : m = (kids t i).length := by omega
    subst hm'
    have hd := doneK_all (t := t) (w := w) (h := h) (i := i) (out := List.replicate t.length zeroR) (by rw [List.length_replicate])
    repeat' (first | ((with_reducible apply xsim); (first | ((with_reducible apply xo); exact rfl) | with_reducible apply xend)) | ((with_reducible apply xaw); (first | ((with_reducible apply xstepS); refine AW.step tok rfl ?_) | ((with_reducible apply xstep); refine AW.region tok rfl ?_) | with_reducible (first | refine AW.seq ?_ | refine AW.exit ?_) | ((with_reducible apply xcond); exact rfl))) | with_reducible (first | refine xthen ?_ | refine xthen_e ?_ | refine xblock ?_ | refine xblock_e ?_ | refine xround_e ?_) | (with_reducible intro hc; (try simp only [decide_eq_true_eq, decide_eq_false_iff_not, Bool.not_true, Bool.not_false, Bool.not_eq_true', Bool.not_eq_false', ne_eq, not_true, reduceCtorEq, List.length_map] at hc); (try (exfalso; omega))) | with_reducible (first | exact trivial | refine And.intro ?_ ?_ | exact rfl) | (refine inR_i64.mpr ?_; first | omega | (simp only [List.length_map, List.length_map]; omega)))
    refine round_end (i+1) hlt (by omega) (by (refine xwk (π := [0, 1]) (by decide) rfl ?_ ?_; (first | simp -implicitDefEqProofs only [go_sem, Int.reduceEq, Int.reduceLT, Int.reduceLE, Nat.reduceAdd, Nat.reduceSub, Nat.reduceMul, Nat.reduceEqDiff, Nat.reduceLeDiff, Nat.reducePow, ↓reduceIte, reduceCtorEq, hd]); repeat' (first | exact renE_n | ((with_reducible apply renE_c); exact rfl; focus (first | (simp -implicitDefEqProofs only [go_sem, Int.reduceEq, Int.reduceLT, Int.reduceLE, Nat.reduceAdd, Nat.reduceSub, Nat.reduceMul, Nat.reduceEqDiff, Nat.reduceLeDiff, Nat.reducePow, ↓reduceIte, reduceCtorEq, hd]; done))))))
  have hi' : i = t.length := by omega
  subst hi'
  have he := lay_end hk (w := w) (h := h) (out := List.replicate t.length zeroR) (by rw [List.length_replicate])
  have hll : (layoutOf t w h).length = t.length := by simp [layoutOf]
  rw [he]
  repeat' (first | ((with_reducible apply xsim); (first | ((with_reducible apply xo); exact rfl) | with_reducible apply xend)) | ((with_reducible apply xaw); (first | ((with_reducible apply xstepS); refine AW.step tok rfl ?_) | with_reducible (first | refine AW.seq ?_ | refine AW.ret ?_ | refine AW.exit ?_) | ((with_reducible apply xcond); exact rfl))) | with_reducible (first | refine xthen ?_ | refine xthen_e ?_ | refine xblock_e ?_ | refine xround_e ?_) | (with_reducible intro hc; (try simp only [decide_eq_true_eq, decide_eq_false_iff_not, Bool.not_true, Bool.not_false, Bool.not_eq_true', Bool.not_eq_false', ne_eq, not_true, reduceCtorEq, List.length_map] at hc); (try (exfalso; omega))) | with_reducible (first | exact trivial | refine And.intro ?_ ?_ | exact rfl))
  (refine xfinOwn [1] (by first | exact .inl rfl | exact .inr rfl) rfl (by repeat' (first | exact trivial | exact rfl | refine And.intro ?_ ?_)) (by decide) rfl ?_ ?_ <;> simp -implicitDefEqProofs only [go_sem, Int.reduceEq, Int.reduceLT, Int.reduceLE, Nat.reduceAdd, Nat.reduceSub, Nat.reduceMul, Nat.reduceEqDiff, Nat.reduceLeDiff, Nat.reducePow, ↓reduceIte, reduceCtorEq, hll])
end Go.Proofs.YticgjepndfjafaaGreat

