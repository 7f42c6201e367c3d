import Derived.Test.YtemihgpcodcjgaaG14
import Derived.Test.YtemihgpcodcjgaaG16
set_option linter.unusedSimpArgs false
set_option linter.unusedVariables false
namespace Go.Proofs.Ytemihgpcodcjgaa
open Go.Fw
@[go_sem] def lv85 : List (List Nat) := [[0, 1, 2], [0, 2, 7], [0, 2, 7, 8], [0, 2, 7, 8, 9], [0, 2, 7, 8, 9, 33], [0, 2, 7, 36, 37, 38], [0, 2, 7, 36, 37, 38, 39], [0, 2, 7, 10, 11, 36, 37, 38], [0, 2, 7, 36, 37, 38], [0, 2, 7, 36, 37, 38], [0, 7, 12], [0, 7, 12, 56], [0, 7, 12, 13], [0, 7, 12, 13, 60, 61, 62], [0, 7, 12, 13, 60, 61, 62, 63], [0, 7, 12, 13, 14, 15, 60, 61, 62], [0, 7, 12, 13, 14, 15, 60, 61, 62, 73], [0, 7, 12, 13, 60, 61, 62], [0, 7, 12, 13, 60, 61, 62], [0, 7, 12, 13, 82], [0, 7, 12, 85, 86, 87], [0, 7, 12, 85, 86, 87, 88], [0, 7, 12, 16, 17, 85, 86, 87], [0, 7, 12, 16, 17, 85, 86, 87], [0, 7, 12, 17, 85, 86, 87], [0, 7, 12, 85, 86, 87], [0, 7, 12, 85, 86, 87], [6]]


theorem fill_skip {ls : List Line} {out : List Int} {k : Nat} (ho : out.length = ls.length) (hk : k < ls.length) (hc : ¬ ls[k].min < out[k]'(by omega)) : fillRows encN zN (nowW ls out) k = fillRows encN zN (nowW ls out) (k + 1) := by
  have hn := nowW_len ho
  have hset := fillRows_set (enc := encN) (z := zN) (xs := nowW ls out) (k := k) (by omega)
  have hat := fillRows_at (enc := encN) (z := zN) (xs := nowW ls out) (k := k) (by omega)
  rw [← hset, nowW_at hk (by omega), if_neg hc]
  refine List.ext_getElem? fun i => ?_
  rw [List.getElem?_set]
  split
  · rename_i e; subst e
    split
    · exact hat
    · rename_i hl; rw [fillRows_len (by omega)] at hl; omega
  · rfl
theorem spread0 {ws : List Int} (h : WOk ws) {a k : Nat} {out : List Int} : putN (spread 0 ws) a k out = out := by
  have hb := spread_bd h (n := 0) (by omega)
  refine List.ext_getElem putN_len fun i h1 h2 => ?_
  simp only [putN, List.getElem_mapIdx]
  split
  · cases hg : (spread 0 ws)[i - a]? with
    | none => simp
    | some y => have := hb y (List.mem_of_getElem? hg); simp only [Option.getD_some]; omega
  · rfl

/-- What the rounds of the shrinking need. -/
structure Shr (ls : List Line) (n : Int) (T : Nat → List Int × Int) : Prop where
  inv : ∀ r, SInv ls (T r).1 ∧ 0 ≤ (T r).2 ∧ (T r).2 ≤ n
  succ : ∀ r, 0 < (T r).2 → sumI (nowW ls (T r).1) ≠ 0 → (T (r + 1)) = (less ls (T r).1 (T r).2, (T r).2 - sumI (tks ls (T r).1 (T r).2))
  run : ∀ r : Nat, (T r).2 + r ≤ n → 0 < (T r).2 → sumI (nowW ls (T r).1) ≠ 0 → (T (r + 1)).2 + (r + 1 : Nat) ≤ n ∧ (T (r + 1)).2 < (T r).2
  done : ∀ r : Nat, (T r).2 + r ≤ n → ¬ (0 < (T r).2 ∧ sumI (nowW ls (T r).1) ≠ 0) → T n.toNat = T r
theorem shr_of {ls : List Line} {out : List Int} {n : Int} (h : LOk ls) (ho : SInv ls out) (hn : 0 ≤ n) : Shr ls n (shrinkTo ls out n) := by
  refine ⟨fun r => ?_, fun r h1 h2 => ?_, fun r hr h1 h2 => shrink_run h ho hn hr ⟨h1, h2⟩, fun r hr hc => shrink_done hc _ ?_⟩
  · obtain ⟨i1, i2, i3, _⟩ := shrink_inv h ho hn r
    exact ⟨i1, i2, i3⟩
  · rw [shrinkTo]; simp only [if_pos (And.intro h1 h2)]
  · obtain ⟨i1, i2, i3, _⟩ := shrink_inv h ho hn r
    omega

set_option maxHeartbeats 4000000 in
theorem c_lineSizesI (ls : List Line) (ss : List Span) (room : Int) (h : LOk ls) (hs : SOk ss ls.length) (hr : 0 ≤ room ∧ room ≤ 400) : ACon Try.prog 85 [.d (.lst (ls.map encLine)), .d (.lst (ss.map encSpan)), .d (.int .i64 room)] [] (ONums (sizes ls (requests ls ss) room)) := by
  have hlo := h.lo; have hhi := h.hi; have hsh := hs.hi
  have cr := c_lineRequestsI ls ss h hs
  have ho := requests_ge h hs
  generalize requests ls ss = out at *
  have hol := ho.len
  have cw := c_weightsI ls hhi
  have cs := c_sum out (ho.toROk.nums hhi)
  have hb := sum50 ho.toROk hhi
  have hall := h.all
  have csw := c_sum (weights ls) hall.nums
  have hws := hall.sum
  have hwn := hall.nums.sum _ (Nat.le_refl _)
  have hwl := weights_len ls
  rw [List.take_length, hwl] at hwn
  by_cases h1 : room - sumI out < 0
  · have hsz : sizes ls out room = (shrinkTo ls out (sumI out - room) (sumI out - room).toNat).1 := by rw [sizes, if_pos h1]
    have hS := shr_of h ho (show 0 ≤ sumI out - room by omega)
    have hT0 : shrinkTo ls out (sumI out - room) 0 = (out, sumI out - room) := rfl
    generalize shrinkTo ls out (sumI out - room) = T at *
    refine ACon.introW tok (nt := 116) Try.func85 rfl rfl rfl (by kernel_rfl) rfl ?_
    have htk : ∀ xs : List Int, xs.length = ls.length → List.take ls.length (xs.map encN) = xs.map encN := fun xs hx => List.take_of_length_le (by simp [hx])
    repeat' (first | ((with_reducible apply xsim); (first | ((with_reducible apply xo); exact rfl) | with_reducible apply xend | ((with_reducible apply xguardS); exact rfl; exact rfl) | ((with_reducible apply xcallIs); exact rfl; exact rfl; (first | exact cw | exact csw); exact rfl) | ((with_reducible apply xcallLend [0]); exact rfl; exact cs; (focus (first | exact rfl | (simp -implicitDefEqProofs only [go_sem, ↓reduceIte, Nat.reduceEqDiff, List.length_map, hol, htk out hol]; done))); exact rfl; exact rfl) | ((with_reducible apply xcallOwn); exact rfl; exact rfl; exact cr; simp only [backV, backVs, backVs_mapd, backId, backO, List.map_cons, List.map_nil, List.getElem?_nil, List.length_cons, List.length_nil, Nat.reduceAdd, Nat.reduceSub, List.cons_append, List.nil_append, List.append_nil]))) | ((with_reducible apply xaw); (first | ((with_reducible apply xstepS); refine AW.step tok rfl ?_) | with_reducible (first | refine AW.seq ?_ | refine AW.block ?_ | refine AW.skip ?_ | refine AW.ret ?_ | refine AW.exit ?_) | ((with_reducible apply xcond); exact rfl))) | with_reducible (first | refine xthen ?_ | refine xthen_r ?_ | refine xthen_e ?_ | refine xblock ?_ | refine xblock_r ?_ | refine xblock_e ?_ | refine xblock_n rfl ?_ | refine xround_r ?_ | refine xround_e ?_) | (with_reducible intro hc; (try simp only [decide_eq_true_eq, decide_eq_false_iff_not, Bool.not_true, Bool.not_false, Bool.not_eq_true', Bool.not_eq_false', ne_eq, not_true, reduceCtorEq, List.length_map, hol, htk out hol] at hc); (try (exfalso; omega))) | with_reducible (first | exact trivial | refine And.intro ?_ ?_ | exact rfl | exact Nat.le_refl _) | (refine inR_i64.mpr ?_; first | omega | (simp only [List.length_map, List.length_map, hol, htk out hol]; omega)))
    refine AW.loop (S := fun r : Nat => ⟨[(0, .d (.lst (ls.map encLine))), (7, .msl 0 1 0 ls.length), (12, .d (.int .i64 (T r).2))], [.arr 1 ((T r).1.map encN)], 116, 0⟩)
      (Pre := fun r => (T r).2 + r ≤ sumI out - room) (μ := fun r => (T r).2.toNat) 0 (by rw [hT0]; simp) ?_ ?_
    · (refine xwk (π := [0]) (by decide) rfl ?_ ?_; (first | simp -implicitDefEqProofs only [go_sem, Int.reduceEq, Int.reduceLT, Int.reduceLE, Nat.reduceAdd, Nat.reduceSub, Nat.reduceMul, Nat.reduceEqDiff, Nat.reduceLeDiff, Nat.reducePow, ↓reduceIte, reduceCtorEq, hT0, hol]); repeat' (first | exact renE_n | ((with_reducible apply renE_c); exact rfl; focus (first | (simp -implicitDefEqProofs only [go_sem, Int.reduceEq, Int.reduceLT, Int.reduceLE, Nat.reduceAdd, Nat.reduceSub, Nat.reduceMul, Nat.reduceEqDiff, Nat.reduceLeDiff, Nat.reducePow, ↓reduceIte, reduceCtorEq, hT0, hol]; done)))))
    intro r hpre
    obtain ⟨i1, i2, i3⟩ := hS.inv r
    have hsu := hS.succ r
    have hrun := hS.run r hpre
    have hdn := hS.done r hpre
    by_cases hpos : ¬ 0 < (T r).2
    · have hfin := hdn (fun hc => hpos hc.1)
      rw [hfin] at hsz
      repeat' (first | ((with_reducible apply xsim); (first | ((with_reducible apply xo); exact rfl) | with_reducible apply xend)) | ((with_reducible apply xaw); (first | ((with_reducible apply xstepS); refine AW.step tok rfl ?_) | with_reducible (first | refine AW.seq ?_ | refine AW.block ?_ | refine AW.skip ?_ | refine AW.ret ?_ | refine AW.exit ?_) | ((with_reducible apply xcond); exact rfl))) | with_reducible (first | refine xthen ?_ | refine xthen_r ?_ | refine xthen_e ?_ | refine xblock ?_ | refine xblock_r ?_ | refine xblock_e ?_ | refine xblock_n rfl ?_ | refine xround_r ?_ | refine xround_e ?_) | (with_reducible intro hc; (try simp only [decide_eq_true_eq, decide_eq_false_iff_not, Bool.not_true, Bool.not_false, Bool.not_eq_true', Bool.not_eq_false', ne_eq, not_true, reduceCtorEq] at hc); (try (exfalso; omega))) | with_reducible (first | exact trivial | refine And.intro ?_ ?_ | exact rfl | exact Nat.le_refl _))
      (refine xfinOwn [0] (by first | exact .inl rfl | exact .inr rfl) rfl (by repeat' (first | exact trivial | exact rfl | refine And.intro ?_ ?_)) (by decide) rfl ?_ ?_ <;> simp -implicitDefEqProofs only [go_sem, Int.reduceEq, Int.reduceLT, Int.reduceLE, Nat.reduceAdd, Nat.reduceSub, Nat.reduceMul, Nat.reduceEqDiff, Nat.reduceLeDiff, Nat.reducePow, ↓reduceIte, reduceCtorEq, hsz, i1.len])
    replace hpos : 0 < (T r).2 := by omega
    generalize hTr : T r = st at *
    obtain ⟨ys, n⟩ := st
    dsimp only at i1 i2 i3 hpre hsu hrun hdn hpos ⊢
    have hyl := i1.len
    have hnl := nowW_len hyl
    have hno := nowW_ok h hyl
    have hnb := hno.nums.sum _ (Nat.le_refl _)
    rw [List.take_length, hnl] at hnb
    have csn := c_sum (nowW ls ys) hno.nums
    have hsb := sum50 i1.toROk hhi
    repeat' (first | ((with_reducible apply xsim); (first | ((with_reducible apply xlenM); exact rfl; exact rfl) | ((with_reducible apply xo); exact rfl) | with_reducible apply xend | simp -implicitDefEqProofs only [go_sem, Int.reduceEq, Int.reduceLT, Int.reduceLE, Nat.reduceAdd, Nat.reduceSub, Nat.reduceMul, Nat.reduceEqDiff, Nat.reduceLeDiff, Nat.reducePow, ↓reduceIte, reduceCtorEq, List.length_map, hyl, List.length_replicate])) | ((with_reducible apply xaw); (first | ((with_reducible apply xstepS); refine AW.step tok rfl ?_) | with_reducible (first | refine AW.seq ?_ | refine AW.block ?_ | refine AW.skip ?_ | refine AW.ret ?_ | refine AW.exit ?_) | ((with_reducible apply xcond); exact rfl))) | with_reducible (first | refine xthen ?_ | refine xthen_r ?_ | refine xthen_e ?_ | refine xblock ?_ | refine xblock_r ?_ | refine xblock_e ?_ | refine xblock_n rfl ?_ | refine xround_r ?_ | refine xround_e ?_) | (with_reducible intro hc; (try simp only [decide_eq_true_eq, decide_eq_false_iff_not, Bool.not_true, Bool.not_false, Bool.not_eq_true', Bool.not_eq_false', ne_eq, not_true, reduceCtorEq, List.length_map, hyl, List.length_replicate] at hc); (try (exfalso; omega))) | with_reducible (first | exact trivial | refine And.intro ?_ ?_ | exact rfl | exact Nat.le_refl _) | omega)
    refine AW.loop (S := fun k : Nat => ⟨[(0, .d (.lst (ls.map encLine))), (7, .msl 0 1 0 ls.length), (12, .d (.int .i64 n)), (13, .msl 1 1 0 ls.length), (60, .d (.lst (ls.map encLine))), (61, .d (.int .i64 ls.length)), (62, .d (.int .i64 k))], [.arr 1 (ys.map encN), .arr 1 (fillRows encN zN (nowW ls ys) k)], 116, 0⟩)
      (Pre := fun k => k ≤ ls.length) (μ := fun k => ls.length - k) 0 (Nat.zero_le _) ?_ ?_
    · (refine xwk (π := [0, 1]) (by decide) rfl ?_ ?_; (first | simp -implicitDefEqProofs only [go_sem, Int.reduceEq, Int.reduceLT, Int.reduceLE, Nat.reduceAdd, Nat.reduceSub, Nat.reduceMul, Nat.reduceEqDiff, Nat.reduceLeDiff, Nat.reducePow, ↓reduceIte, reduceCtorEq, fillRows_zero, zN, hnl]); repeat' (first | exact renE_n | ((with_reducible apply renE_c); exact rfl; focus (first | (simp -implicitDefEqProofs only [go_sem, Int.reduceEq, Int.reduceLT, Int.reduceLE, Nat.reduceAdd, Nat.reduceSub, Nat.reduceMul, Nat.reduceEqDiff, Nat.reduceLeDiff, Nat.reducePow, ↓reduceIte, reduceCtorEq, fillRows_zero, zN, hnl]; done)))))
    intro k hk
    by_cases hkl : k < ls.length
    · have hrow := at_map (f := encLine) hkl
      have hry := at_map (f := encN) (xs := ys) (k := k) (by omega)
      have hz := fillRows_at (enc := encN) (z := zN) (show k < (nowW ls ys).length by omega)
      have hset := fillRows_set (enc := encN) (z := zN) (show k < (nowW ls ys).length by omega)
      have hskip := fill_skip hyl hkl
      rw [nowW_at hkl (by omega)] at hset
      by_cases hc : ls[k].min < ys[k]
      · rw [if_pos hc] at hset
        simp only [encN] at hset
        repeat' (first | ((with_reducible apply xsim); (first | ((with_reducible apply xo); exact rfl) | ((with_reducible apply xst); exact rfl) | with_reducible apply xend | ((with_reducible apply xalloc); exact rfl; simp only [backV, backVs, backVs_mapd, backId, backO, List.map_cons, List.map_nil, List.getElem?_nil, List.length_cons, List.length_nil, Nat.reduceAdd, Nat.reduceSub, List.cons_append, List.nil_append, List.append_nil]) | ((with_reducible apply xidxL); exact rfl; exact rfl; exact rfl; (first | exact hrow | exact hry | exact hz); omega; first | exact rfl | simp only [hsz]) | ((with_reducible apply xidxM); exact rfl; exact rfl; exact rfl; omega; omega; exact rfl) | ((with_reducible apply xldA); exact rfl; exact rfl; exact rfl; (first | exact hrow | exact hry | exact hz); exact rfl) | ((with_reducible apply xstA); exact rfl; exact rfl; exact rfl; exact rfl; (first | exact hrow | exact hry | exact hz); exact rfl; exact rfl; exact rfl; exact rfl; (try simp only [List.set_cons_zero, List.set_cons_succ, List.length_map])))) | ((with_reducible apply xaw); (first | ((with_reducible apply xstepS); refine AW.step tok rfl ?_) | ((with_reducible apply xstep); refine AW.region tok rfl ?_) | with_reducible (first | refine AW.seq ?_ | refine AW.block ?_ | refine AW.skip ?_ | refine AW.ret ?_ | refine AW.exit ?_) | ((with_reducible apply xcond); exact rfl) | ((with_reducible apply xdraw (id := 16)); refine AW.draw (id := 16) (.q 0 (.q 1 (.q 2 (.q 3 (.q 4 (.q 5 (.q 6 (.fin)))))))) tok (by kernel_rfl) rfl (by kernel_rfl) ?_))) | ((with_reducible apply xarun); (first | ((with_reducible apply xrun_q); exact rfl; exact rfl; exact rfl) | with_reducible apply xrun_f)) | with_reducible (first | refine xthen ?_ | refine xthen_r ?_ | refine xthen_e ?_ | refine xblock ?_ | refine xblock_r ?_ | refine xblock_e ?_ | refine xblock_n rfl ?_ | refine xround_r ?_ | refine xround_e ?_) | (with_reducible intro hc; (try simp only [decide_eq_true_eq, decide_eq_false_iff_not, Bool.not_true, Bool.not_false, Bool.not_eq_true', Bool.not_eq_false', ne_eq, not_true, reduceCtorEq, List.length_map] at hc); (try (exfalso; omega))) | with_reducible (first | exact trivial | refine And.intro ?_ ?_ | exact rfl | exact Nat.le_refl _) | exact Eq.refl true | (refine inR_i64.mpr ?_; first | omega | (simp only [List.length_map, List.length_map]; omega)))
        all_goals refine round_end (k+1) hkl (by omega) (by (refine xwk (π := [0, 1]) (by decide) rfl ?_ ?_; (first | simp -implicitDefEqProofs only [go_sem, Int.reduceEq, Int.reduceLT, Int.reduceLE, Nat.reduceAdd, Nat.reduceSub, Nat.reduceMul, Nat.reduceEqDiff, Nat.reduceLeDiff, Nat.reducePow, ↓reduceIte, reduceCtorEq, hset]); repeat' (first | exact renE_n | ((with_reducible apply renE_c); exact rfl; focus (first | (simp -implicitDefEqProofs only [go_sem, Int.reduceEq, Int.reduceLT, Int.reduceLE, Nat.reduceAdd, Nat.reduceSub, Nat.reduceMul, Nat.reduceEqDiff, Nat.reduceLeDiff, Nat.reducePow, ↓reduceIte, reduceCtorEq, hset]; done))))))
      · have hskip := hskip hc
        repeat' (first | ((with_reducible apply xsim); (first | ((with_reducible apply xo); exact rfl) | ((with_reducible apply xst); exact rfl) | with_reducible apply xend | ((with_reducible apply xalloc); exact rfl; simp only [backV, backVs, backVs_mapd, backId, backO, List.map_cons, List.map_nil, List.getElem?_nil, List.length_cons, List.length_nil, Nat.reduceAdd, Nat.reduceSub, List.cons_append, List.nil_append, List.append_nil]) | ((with_reducible apply xidxL); exact rfl; exact rfl; exact rfl; (first | exact hrow | exact hry | exact hz); omega; first | exact rfl | simp only [hsz]) | ((with_reducible apply xidxM); exact rfl; exact rfl; exact rfl; omega; omega; exact rfl) | ((with_reducible apply xldA); exact rfl; exact rfl; exact rfl; (first | exact hrow | exact hry | exact hz); exact rfl))) | ((with_reducible apply xaw); (first | ((with_reducible apply xstepS); refine AW.step tok rfl ?_) | ((with_reducible apply xstep); refine AW.region tok rfl ?_) | with_reducible (first | refine AW.seq ?_ | refine AW.block ?_ | refine AW.skip ?_ | refine AW.ret ?_ | refine AW.exit ?_) | ((with_reducible apply xcond); exact rfl) | ((with_reducible apply xdraw (id := 16)); refine AW.draw (id := 16) (.q 0 (.q 1 (.q 2 (.q 3 (.q 4 (.q 5 (.q 6 (.fin)))))))) tok (by kernel_rfl) rfl (by kernel_rfl) ?_))) | ((with_reducible apply xarun); (first | ((with_reducible apply xrun_q); exact rfl; exact rfl; exact rfl) | with_reducible apply xrun_f)) | with_reducible (first | refine xthen ?_ | refine xthen_r ?_ | refine xthen_e ?_ | refine xblock ?_ | refine xblock_r ?_ | refine xblock_e ?_ | refine xblock_n rfl ?_ | refine xround_r ?_ | refine xround_e ?_) | (with_reducible intro hc; (try simp only [decide_eq_true_eq, decide_eq_false_iff_not, Bool.not_true, Bool.not_false, Bool.not_eq_true', Bool.not_eq_false', ne_eq, not_true, reduceCtorEq, List.length_map] at hc); (try (exfalso; omega))) | with_reducible (first | exact trivial | refine And.intro ?_ ?_ | exact rfl | exact Nat.le_refl _) | exact Eq.refl true | (refine inR_i64.mpr ?_; first | omega | (simp only [List.length_map, List.length_map]; omega)))
        all_goals refine round_end (k+1) hkl (by omega) (by (refine xwk (π := [0, 1]) (by decide) rfl ?_ ?_; (first | simp -implicitDefEqProofs only [go_sem, Int.reduceEq, Int.reduceLT, Int.reduceLE, Nat.reduceAdd, Nat.reduceSub, Nat.reduceMul, Nat.reduceEqDiff, Nat.reduceLeDiff, Nat.reducePow, ↓reduceIte, reduceCtorEq, hskip]); repeat' (first | exact renE_n | ((with_reducible apply renE_c); exact rfl; focus (first | (simp -implicitDefEqProofs only [go_sem, Int.reduceEq, Int.reduceLT, Int.reduceLE, Nat.reduceAdd, Nat.reduceSub, Nat.reduceMul, Nat.reduceEqDiff, Nat.reduceLeDiff, Nat.reducePow, ↓reduceIte, reduceCtorEq, hskip]; done))))))
    have hk' : k = ls.length := by omega
    subst hk'
    have hall := fillRows_all (enc := encN) (z := zN) (xs := nowW ls ys)
    rw [hnl] at hall
    rw [hall]
    have htn := htk (nowW ls ys) hnl
    by_cases h0 : sumI (nowW ls ys) = 0
    · have hfin := hdn (fun hc => hc.2 h0)
      rw [hfin] at hsz
      repeat' (first | ((with_reducible apply xsim); (first | ((with_reducible apply xo); exact rfl) | with_reducible apply xend | ((with_reducible apply xcallLend [1]); exact rfl; exact csn; (focus (first | exact rfl | (simp -implicitDefEqProofs only [go_sem, ↓reduceIte, Nat.reduceEqDiff, List.length_map, hnl, htn]; done))); exact rfl; exact rfl))) | ((with_reducible apply xaw); (first | ((with_reducible apply xstepS); refine AW.step tok rfl ?_) | with_reducible (first | refine AW.seq ?_ | refine AW.block ?_ | refine AW.skip ?_ | refine AW.ret ?_ | refine AW.exit ?_) | ((with_reducible apply xcond); exact rfl))) | with_reducible (first | refine xthen ?_ | refine xthen_r ?_ | refine xthen_e ?_ | refine xblock ?_ | refine xblock_r ?_ | refine xblock_e ?_ | refine xblock_n rfl ?_ | refine xround_r ?_ | refine xround_e ?_) | (with_reducible intro hc; (try simp only [decide_eq_true_eq, decide_eq_false_iff_not, Bool.not_true, Bool.not_false, Bool.not_eq_true', Bool.not_eq_false', ne_eq, not_true, reduceCtorEq, List.length_map, hnl, htn] at hc); (try (exfalso; omega))) | with_reducible (first | exact trivial | refine And.intro ?_ ?_ | exact rfl | exact Nat.le_refl _))
      all_goals (refine xfinOwn [0] (by first | exact .inl rfl | exact .inr rfl) rfl (by repeat' (first | exact trivial | exact rfl | refine And.intro ?_ ?_)) (by decide) rfl ?_ ?_ <;> simp -implicitDefEqProofs only [go_sem, Int.reduceEq, Int.reduceLT, Int.reduceLE, Nat.reduceAdd, Nat.reduceSub, Nat.reduceMul, Nat.reduceEqDiff, Nat.reduceLeDiff, Nat.reducePow, ↓reduceIte, reduceCtorEq, hsz, hyl])
    have csp := c_spreadI n (nowW ls ys) (by omega) hno
    have hpl : (spread n (nowW ls ys)).length = ls.length := by rw [spread_len, hnl]
    have hpb := spread_bd hno (n := n) (by omega)
    have htl := tks_len (n := n) hyl
    have htb : ∀ i (h1 : i < (tks ls ys n).length) (h3 : i < ys.length) (h4 : i < ls.length), 0 ≤ (tks ls ys n)[i] ∧ (tks ls ys n)[i] ≤ ys[i] - ls[i].min := fun i h1 h3 h4 => tks_bd h i1 (n := n) (by omega) (i := i) h4
    have hta : ∀ i (h1 : i < (tks ls ys n).length) (h2 : i < (spread n (nowW ls ys)).length) (h3 : i < ys.length) (h4 : i < ls.length), (tks ls ys n)[i] = min (spread n (nowW ls ys))[i] (ys[i] - ls[i].min) := fun i h1 h2 h3 h4 => tks_at (n := n) hyl (i := i) h4
    have hll := less_len (n := n) hyl
    have hla : ∀ i (h1 : i < (less ls ys n).length) (h2 : i < (tks ls ys n).length) (h3 : i < ys.length), (less ls ys n)[i] = ys[i] - (tks ls ys n)[i] := fun i h1 h2 h3 => less_at (n := n) hyl (i := i) (by omega)
    have htnn := tks_nonneg h i1 (n := n) (by omega)
    have hts := tks_sum h i1 (n := n) (by omega)
    have hsu := hsu hpos h0
    have hrun := hrun hpos h0
    generalize spread n (nowW ls ys) = ps at *
    generalize tks ls ys n = tk at *
    generalize less ls ys n = zs at *
    repeat' (first | ((with_reducible apply xsim); (first | ((with_reducible apply xo); exact rfl) | with_reducible apply xend | ((with_reducible apply xcallLend [1]); exact rfl; exact csn; (focus (first | exact rfl | (simp -implicitDefEqProofs only [go_sem, ↓reduceIte, Nat.reduceEqDiff, List.length_map, hnl, htn]; done))); exact rfl; exact rfl) | ((with_reducible apply xcallOwnLend [1]); exact rfl; exact csp; (focus (first | exact rfl | (simp -implicitDefEqProofs only [go_sem, ↓reduceIte, Nat.reduceEqDiff, List.length_map, hnl, htn]; done))); (focus (first | exact ⟨rfl, flat1 (fun _ => rfl)⟩ | (simp -implicitDefEqProofs only [go_sem, Int.reduceEq, Int.reduceLT, Int.reduceLE, Nat.reduceAdd, Nat.reduceSub, Nat.reduceMul, Nat.reduceEqDiff, Nat.reduceLeDiff, Nat.reducePow, ↓reduceIte, reduceCtorEq]; done))); simp only [backV, backVs, backVs_mapd, backId, backO, List.map_cons, List.map_nil, List.getElem?_nil, List.length_cons, List.length_nil, Nat.reduceAdd, Nat.reduceSub, List.cons_append, List.nil_append, List.append_nil]))) | ((with_reducible apply xaw); (first | ((with_reducible apply xstepS); refine AW.step tok rfl ?_) | with_reducible (first | refine AW.seq ?_ | refine AW.block ?_ | refine AW.skip ?_ | refine AW.ret ?_ | refine AW.exit ?_) | ((with_reducible apply xcond); exact rfl))) | with_reducible (first | refine xthen ?_ | refine xthen_r ?_ | refine xthen_e ?_ | refine xblock ?_ | refine xblock_r ?_ | refine xblock_e ?_ | refine xblock_n rfl ?_ | refine xround_r ?_ | refine xround_e ?_) | (with_reducible intro hc; (try simp only [decide_eq_true_eq, decide_eq_false_iff_not, Bool.not_true, Bool.not_false, Bool.not_eq_true', Bool.not_eq_false', ne_eq, not_true, reduceCtorEq, List.length_map, hnl, htn] at hc); (try (exfalso; omega))) | with_reducible (first | exact trivial | refine And.intro ?_ ?_ | exact rfl | exact Nat.le_refl _) | exact Eq.refl true)
    refine AW.loop (S := fun i : Nat => ⟨[(0, .d (.lst (ls.map encLine))), (7, .msl 0 1 0 ls.length), (12, .d (.int .i64 (n - sumI (tk.take i)))), (85, .msl 1 1 0 ls.length), (86, .d (.int .i64 ls.length)), (87, .d (.int .i64 i))], [.arr 1 ((mix zs ys i).map encN), .arr 1 (ps.map encN)], 116, 0⟩)
      (Pre := fun i => i ≤ ls.length) (μ := fun i => ls.length - i) 0 (Nat.zero_le _) ?_ ?_
    · (refine xwk (π := [0, 2]) (by decide) rfl ?_ ?_; (first | simp -implicitDefEqProofs only [go_sem, Int.reduceEq, Int.reduceLT, Int.reduceLE, Nat.reduceAdd, Nat.reduceSub, Nat.reduceMul, Nat.reduceEqDiff, Nat.reduceLeDiff, Nat.reducePow, ↓reduceIte, reduceCtorEq, mix_zero, List.take_zero, sumI, Int.sub_zero, hpl]); repeat' (first | exact renE_n | ((with_reducible apply renE_c); exact rfl; focus (first | (simp -implicitDefEqProofs only [go_sem, Int.reduceEq, Int.reduceLT, Int.reduceLE, Nat.reduceAdd, Nat.reduceSub, Nat.reduceMul, Nat.reduceEqDiff, Nat.reduceLeDiff, Nat.reducePow, ↓reduceIte, reduceCtorEq, mix_zero, List.take_zero, sumI, Int.sub_zero, hpl]; done)))))
    intro i hi
    by_cases hil : i < ls.length
    · have hrow := at_map (f := encLine) hil
      have hrp := at_map (f := encN) (xs := ps) (k := i) (by omega)
      have hmx := mixmap_at (f := encN) (ys := zs) (zs := ys) (k := i) (by omega) (by omega)
      have hset := mixmap_set (f := encN) (ys := zs) (zs := ys) (k := i) (by omega) (by omega)
      have a1 := hta i (by omega) (by omega) (by omega) hil
      have a2 := hla i (by omega) (by omega) (by omega)
      have a3 := htb i (by omega) (by omega) hil
      have a4 := sumI_take (xs := tk) (k := i) (by omega)
      have a5 := sumI_nonneg (xs := tk.take i) (fun x hx => htnn x (List.mem_of_mem_take hx))
      have a6 := sumI_nonneg (xs := tk.take (i + 1)) (fun x hx => htnn x (List.mem_of_mem_take hx))
      have a7 := take_all htnn (a := i)
      have a8 := take_all htnn (a := i + 1)
      have a9 := hpb _ (List.getElem_mem (show i < ps.length by omega))
      have b1 := i1.bd _ (List.getElem_mem (show i < ys.length by omega))
      have b2 := h.ok _ (List.getElem_mem hil)
      rw [a2, a1] at hset
      rw [a1] at a4
      simp only [encN] at hset
      repeat' (first | ((with_reducible apply xsim); (first | ((with_reducible apply xo); exact rfl) | with_reducible apply xend | ((with_reducible apply xidxL); exact rfl; exact rfl; exact rfl; (first | exact hrow | exact hrp | exact hmx); omega; first | exact rfl | simp only [hsz]) | ((with_reducible apply xidxM); exact rfl; exact rfl; exact rfl; omega; omega; exact rfl) | ((with_reducible apply xldA); exact rfl; exact rfl; exact rfl; (first | exact hrow | exact hrp | exact hmx); exact rfl) | ((with_reducible apply xstA); exact rfl; exact rfl; exact rfl; exact rfl; (first | exact hrow | exact hrp | exact hmx); exact rfl; exact rfl; exact rfl; exact rfl; (try simp only [List.set_cons_zero, List.set_cons_succ, List.length_map])))) | ((with_reducible apply xaw); (first | ((with_reducible apply xstepS); refine AW.step tok rfl ?_) | ((with_reducible apply xstep); refine AW.region tok rfl ?_) | with_reducible (first | refine AW.seq ?_ | refine AW.block ?_ | refine AW.skip ?_ | refine AW.ret ?_ | refine AW.exit ?_) | ((with_reducible apply xcond); exact rfl) | ((with_reducible apply xdraw (id := 23)); refine AW.draw (id := 23) (.q 0 (.q 1 (.q 2 (.q 3 (.q 4 (.q 5 (.q 6 (.q 7 (.q 8 (.q 9 (.q 10 (.q 11 (.e 12 (.fin)))))))))))))) tok (by kernel_rfl) rfl (by kernel_rfl) ?_))) | ((with_reducible apply xarun); (first | ((with_reducible apply xrun_q); exact rfl; exact rfl; exact rfl) | ((with_reducible apply xrun_e); exact rfl) | with_reducible apply xrun_f)) | with_reducible (first | refine xthen ?_ | refine xthen_r ?_ | refine xthen_e ?_ | refine xblock ?_ | refine xblock_r ?_ | refine xblock_e ?_ | refine xblock_n rfl ?_ | refine xround_r ?_ | refine xround_e ?_) | (with_reducible intro hc; (try simp only [decide_eq_true_eq, decide_eq_false_iff_not, Bool.not_true, Bool.not_false, Bool.not_eq_true', Bool.not_eq_false', ne_eq, not_true, reduceCtorEq, List.length_map] at hc); (try (exfalso; omega))) | with_reducible (first | exact trivial | refine And.intro ?_ ?_ | exact rfl | exact Nat.le_refl _) | (refine inR_i64.mpr ?_; first | omega | (simp only [List.length_map, List.length_map]; omega)))
      all_goals refine round_end (i+1) hil (by omega) (by (refine xwk (π := [0, 1]) (by decide) rfl ?_ ?_; (first | simp -implicitDefEqProofs only [go_sem, Int.reduceEq, Int.reduceLT, Int.reduceLE, Nat.reduceAdd, Nat.reduceSub, Nat.reduceMul, Nat.reduceEqDiff, Nat.reduceLeDiff, Nat.reducePow, ↓reduceIte, reduceCtorEq, hset, a4, Int.sub_sub]); repeat' (first | exact renE_n | ((with_reducible apply renE_c); exact rfl; focus (first | (simp -implicitDefEqProofs only [go_sem, Int.reduceEq, Int.reduceLT, Int.reduceLE, Nat.reduceAdd, Nat.reduceSub, Nat.reduceMul, Nat.reduceEqDiff, Nat.reduceLeDiff, Nat.reducePow, ↓reduceIte, reduceCtorEq, hset, a4, Int.sub_sub]; done))))))
    have hi' : i = ls.length := by omega
    subst hi'
    have hall2 := mix_all (ys := zs) (zs := ys) (by omega)
    rw [hll] at hall2
    have htk2 : tk.take ls.length = tk := by rw [← htl, List.take_length]
    repeat' (first | ((with_reducible apply xsim); (first | ((with_reducible apply xo); exact rfl) | with_reducible apply xend)) | ((with_reducible apply xaw); (first | ((with_reducible apply xstepS); refine AW.step tok rfl ?_) | with_reducible (first | refine AW.seq ?_ | refine AW.block ?_ | refine AW.skip ?_ | refine AW.ret ?_ | refine AW.exit ?_) | ((with_reducible apply xcond); exact rfl))) | with_reducible (first | refine xthen ?_ | refine xthen_r ?_ | refine xthen_e ?_ | refine xblock ?_ | refine xblock_r ?_ | refine xblock_e ?_ | refine xblock_n rfl ?_ | refine xround_r ?_ | refine xround_e ?_) | (with_reducible intro hc; (try simp only [decide_eq_true_eq, decide_eq_false_iff_not, Bool.not_true, Bool.not_false, Bool.not_eq_true', Bool.not_eq_false', ne_eq, not_true, reduceCtorEq] at hc); (try (exfalso; omega))) | with_reducible (first | exact trivial | refine And.intro ?_ ?_ | exact rfl | exact Nat.le_refl _))
    refine round_end (r+1) hrun.1 (by rw [hTr]; dsimp only; omega) (by (refine xwk (π := [0]) (by decide) rfl ?_ ?_; (first | simp -implicitDefEqProofs only [go_sem, Int.reduceEq, Int.reduceLT, Int.reduceLE, Nat.reduceAdd, Nat.reduceSub, Nat.reduceMul, Nat.reduceEqDiff, Nat.reduceLeDiff, Nat.reducePow, ↓reduceIte, reduceCtorEq, hsu, hall2, htk2]); repeat' (first | exact renE_n | ((with_reducible apply renE_c); exact rfl; focus (first | (simp -implicitDefEqProofs only [go_sem, Int.reduceEq, Int.reduceLT, Int.reduceLE, Nat.reduceAdd, Nat.reduceSub, Nat.reduceMul, Nat.reduceEqDiff, Nat.reduceLeDiff, Nat.reducePow, ↓reduceIte, reduceCtorEq, hsu, hall2, htk2]; done))))))
  · have htk : ∀ xs : List Int, xs.length = ls.length → List.take ls.length (xs.map encN) = xs.map encN := fun xs hx => List.take_of_length_le (by simp [hx])
    by_cases hq : sumI (weights ls) = 0 ∨ room = sumI out
    · have hsz : sizes ls out room = out := by
        rw [sizes, if_neg h1]
        split
        · rfl
        · rcases hq with hq | hq
          · contradiction
          · rw [show room - sumI out = 0 by omega]; exact spread0 hall
      rw [hsz]
      refine ACon.introW tok (nt := 116) Try.func85 rfl rfl rfl (by kernel_rfl) rfl ?_
      repeat' (first | ((with_reducible apply xsim); (first | ((with_reducible apply xo); exact rfl) | with_reducible apply xend | ((with_reducible apply xguardS); exact rfl; exact rfl) | ((with_reducible apply xcallIs); exact rfl; exact rfl; (first | exact cw | exact csw); exact rfl) | ((with_reducible apply xcallLend [0]); exact rfl; exact cs; (focus (first | exact rfl | (simp -implicitDefEqProofs only [go_sem, ↓reduceIte, Nat.reduceEqDiff, List.length_map, hol, htk out hol]; done))); exact rfl; exact rfl) | ((with_reducible apply xcallOwn); exact rfl; exact rfl; exact cr; simp only [backV, backVs, backVs_mapd, backId, backO, List.map_cons, List.map_nil, List.getElem?_nil, List.length_cons, List.length_nil, Nat.reduceAdd, Nat.reduceSub, List.cons_append, List.nil_append, List.append_nil]))) | ((with_reducible apply xaw); (first | ((with_reducible apply xstepS); refine AW.step tok rfl ?_) | with_reducible (first | refine AW.seq ?_ | refine AW.block ?_ | refine AW.skip ?_ | refine AW.ret ?_ | refine AW.exit ?_) | ((with_reducible apply xcond); exact rfl))) | with_reducible (first | refine xthen ?_ | refine xthen_r ?_ | refine xthen_e ?_ | refine xblock ?_ | refine xblock_r ?_ | refine xblock_e ?_ | refine xblock_n rfl ?_ | refine xround_r ?_ | refine xround_e ?_) | (with_reducible intro hc; (try simp only [decide_eq_true_eq, decide_eq_false_iff_not, Bool.not_true, Bool.not_false, Bool.not_eq_true', Bool.not_eq_false', ne_eq, not_true, reduceCtorEq, List.length_map, hol, htk out hol] at hc); (try (exfalso; omega))) | with_reducible (first | exact trivial | refine And.intro ?_ ?_ | exact rfl | exact Nat.le_refl _) | (refine inR_i64.mpr ?_; first | omega | (simp only [List.length_map, List.length_map, hol, htk out hol]; omega)))
      all_goals
        refine AW.loop (S := fun r : Nat => ⟨[(0, .d (.lst (ls.map encLine))), (7, .msl 0 1 0 ls.length), (12, .d (.int .i64 (sumI out - room)))], [.arr 1 (out.map encN)], 116, 0⟩)
          (Pre := fun r => True) (μ := fun r => r) 0 trivial ?_ ?_
        · (refine xwk (π := [0]) (by decide) rfl ?_ ?_; (first | simp -implicitDefEqProofs only [go_sem, Int.reduceEq, Int.reduceLT, Int.reduceLE, Nat.reduceAdd, Nat.reduceSub, Nat.reduceMul, Nat.reduceEqDiff, Nat.reduceLeDiff, Nat.reducePow, ↓reduceIte, reduceCtorEq, hol]); repeat' (first | exact renE_n | ((with_reducible apply renE_c); exact rfl; focus (first | (simp -implicitDefEqProofs only [go_sem, Int.reduceEq, Int.reduceLT, Int.reduceLE, Nat.reduceAdd, Nat.reduceSub, Nat.reduceMul, Nat.reduceEqDiff, Nat.reduceLeDiff, Nat.reducePow, ↓reduceIte, reduceCtorEq, hol]; done)))))
        intro r _
        repeat' (first | ((with_reducible apply xsim); (first | ((with_reducible apply xo); exact rfl) | with_reducible apply xend)) | ((with_reducible apply xaw); (first | ((with_reducible apply xstepS); refine AW.step tok rfl ?_) | with_reducible (first | refine AW.seq ?_ | refine AW.block ?_ | refine AW.skip ?_ | refine AW.ret ?_ | refine AW.exit ?_) | ((with_reducible apply xcond); exact rfl))) | with_reducible (first | refine xthen ?_ | refine xthen_r ?_ | refine xthen_e ?_ | refine xblock ?_ | refine xblock_r ?_ | refine xblock_e ?_ | refine xblock_n rfl ?_ | refine xround_r ?_ | refine xround_e ?_) | (with_reducible intro hc; (try simp only [decide_eq_true_eq, decide_eq_false_iff_not, Bool.not_true, Bool.not_false, Bool.not_eq_true', Bool.not_eq_false', ne_eq, not_true, reduceCtorEq] at hc); (try (exfalso; omega))) | with_reducible (first | exact trivial | refine And.intro ?_ ?_ | exact rfl | exact Nat.le_refl _))
        (refine xfinOwn [0] (by first | exact .inl rfl | exact .inr rfl) rfl (by repeat' (first | exact trivial | exact rfl | refine And.intro ?_ ?_)) (by decide) rfl ?_ ?_ <;> simp -implicitDefEqProofs only [go_sem, Int.reduceEq, Int.reduceLT, Int.reduceLE, Nat.reduceAdd, Nat.reduceSub, Nat.reduceMul, Nat.reduceEqDiff, Nat.reduceLeDiff, Nat.reducePow, ↓reduceIte, reduceCtorEq, hol])
    have hq1 : sumI (weights ls) ≠ 0 := fun h => hq (.inl h)
    have hq2 : room ≠ sumI out := fun h => hq (.inr h)
    have hsd := sizes_ok h ho hr
    have hsz : sizes ls out room = putN (spread (room - sumI out) (weights ls)) 0 out.length out := by rw [sizes, if_neg h1, if_neg hq1]
    have csp := c_spreadI (room - sumI out) (weights ls) (by omega) hall
    have hpl : (spread (room - sumI out) (weights ls)).length = ls.length := by rw [spread_len, hwl]
    have hpb := spread_bd hall (n := room - sumI out) (by omega)
    have hful := (hsd.sum hq1).2 (by omega)
    have hbd := hsd.bd
    have hlen := hsd.len
    rw [hsz] at hful hbd hlen
    rw [hsz]
    rw [hol] at hful hbd hlen ⊢
    generalize spread (room - sumI out) (weights ls) = ps at *
    have csf := c_sum (putN ps 0 ls.length out) ⟨by omega, fun x hx => by have := hbd x hx; omega⟩
    have ht2 := htk _ hlen
    refine ACon.introW tok (nt := 116) Try.func85 rfl rfl rfl (by kernel_rfl) rfl ?_
    repeat' (first | ((with_reducible apply xsim); (first | ((with_reducible apply xo); exact rfl) | with_reducible apply xend | ((with_reducible apply xguardS); exact rfl; exact rfl) | ((with_reducible apply xcallIs); exact rfl; exact rfl; (first | exact cw | exact csw); exact rfl) | ((with_reducible apply xcallLend [0]); exact rfl; exact cs; (focus (first | exact rfl | (simp -implicitDefEqProofs only [go_sem, ↓reduceIte, Nat.reduceEqDiff, List.length_map, hol, htk out hol]; done))); exact rfl; exact rfl) | ((with_reducible apply xcallOwn); exact rfl; exact rfl; exact cr; simp only [backV, backVs, backVs_mapd, backId, backO, List.map_cons, List.map_nil, List.getElem?_nil, List.length_cons, List.length_nil, Nat.reduceAdd, Nat.reduceSub, List.cons_append, List.nil_append, List.append_nil]) | ((with_reducible apply xcallOwn); exact rfl; exact rfl; exact csp; simp only [backV, backVs, backVs_mapd, backId, backO, List.map_cons, List.map_nil, List.getElem?_nil, List.length_cons, List.length_nil, Nat.reduceAdd, Nat.reduceSub, List.cons_append, List.nil_append, List.append_nil]))) | ((with_reducible apply xaw); (first | ((with_reducible apply xstepS); refine AW.step tok rfl ?_) | with_reducible (first | refine AW.seq ?_ | refine AW.block ?_ | refine AW.skip ?_ | refine AW.ret ?_ | refine AW.exit ?_) | ((with_reducible apply xcond); exact rfl))) | (with_reducible intro hc; (try simp only [decide_eq_true_eq, decide_eq_false_iff_not, Bool.not_true, Bool.not_false, Bool.not_eq_true', Bool.not_eq_false', ne_eq, not_true, reduceCtorEq, List.length_map, hol, htk out hol] at hc); (try (exfalso; omega))) | with_reducible (first | exact trivial | refine And.intro ?_ ?_ | exact rfl | exact Nat.le_refl _) | exact Eq.refl true | (refine inR_i64.mpr ?_; first | omega | (simp only [List.length_map, List.length_map, hol, htk out hol]; omega)))
    refine AW.loop (S := fun i : Nat => ⟨[(0, .d (.lst (ls.map encLine))), (2, .d (.int .i64 room)), (7, .msl 0 1 0 ls.length), (36, .msl 1 1 0 ls.length), (37, .d (.int .i64 ls.length)), (38, .d (.int .i64 i))], [.arr 1 ((putN ps 0 i out).map encN), .arr 1 (ps.map encN)], 116, 0⟩)
      (Pre := fun i => i ≤ ls.length) (μ := fun i => ls.length - i) 0 (Nat.zero_le _) ?_ ?_
    · (refine xwk (π := [0, 1]) (by decide) rfl ?_ ?_; (first | simp -implicitDefEqProofs only [go_sem, Int.reduceEq, Int.reduceLT, Int.reduceLE, Nat.reduceAdd, Nat.reduceSub, Nat.reduceMul, Nat.reduceEqDiff, Nat.reduceLeDiff, Nat.reducePow, ↓reduceIte, reduceCtorEq, putN_zero, hpl, hol]); repeat' (first | exact renE_n | ((with_reducible apply renE_c); exact rfl; focus (first | (simp -implicitDefEqProofs only [go_sem, Int.reduceEq, Int.reduceLT, Int.reduceLE, Nat.reduceAdd, Nat.reduceSub, Nat.reduceMul, Nat.reduceEqDiff, Nat.reduceLeDiff, Nat.reducePow, ↓reduceIte, reduceCtorEq, putN_zero, hpl, hol]; done)))))
    intro i hi
    by_cases hil : i < ls.length
    · have hrp := at_map (f := encN) (xs := ps) (k := i) (by omega)
      have hp := hpb _ (List.getElem_mem (show i < ps.length by omega))
      have hob := ho.bd _ (List.getElem_mem (show i < out.length by omega))
      have hat := putN_at (ps := ps) (out := out) (a := 0) (k := i) (by omega)
      have hset := putN_set (ps := ps) (out := out) (a := 0) (k := i) (by omega) (by omega)
      simp only [Nat.zero_add] at hat hset
      have hz : ((putN ps 0 i out).map encN)[i]? = some [.int .i64 (out[i]'(by omega))] := by rw [List.getElem?_map, hat]; rfl
      have hset2 : ((putN ps 0 i out).map encN).set i [.int .i64 (out[i]'(by omega) + ps[i]'(by omega))] = (putN ps 0 (i + 1) out).map encN := by rw [← hset, List.map_set]; rfl
      repeat' (first | ((with_reducible apply xsim); (first | ((with_reducible apply xo); exact rfl) | with_reducible apply xend | ((with_reducible apply xidxM); exact rfl; exact rfl; exact rfl; omega; omega; exact rfl) | ((with_reducible apply xldA); exact rfl; exact rfl; exact rfl; (first | exact hrp | exact hz); exact rfl) | ((with_reducible apply xstA); exact rfl; exact rfl; exact rfl; exact rfl; (first | exact hrp | exact hz); exact rfl; exact rfl; exact rfl; exact rfl; (try simp only [List.set_cons_zero, List.set_cons_succ])))) | ((with_reducible apply xaw); (first | ((with_reducible apply xstepS); refine AW.step tok rfl ?_) | ((with_reducible apply xstep); refine AW.region tok rfl ?_) | with_reducible (first | refine AW.seq ?_ | refine AW.block ?_ | refine AW.skip ?_ | refine AW.ret ?_ | refine AW.exit ?_) | ((with_reducible apply xcond); exact rfl))) | with_reducible (first | refine xthen ?_ | refine xthen_r ?_ | refine xthen_e ?_ | refine xblock ?_ | refine xblock_r ?_ | refine xblock_e ?_ | refine xblock_n rfl ?_ | refine xround_r ?_ | refine xround_e ?_) | (with_reducible intro hc; (try simp only [decide_eq_true_eq, decide_eq_false_iff_not, Bool.not_true, Bool.not_false, Bool.not_eq_true', Bool.not_eq_false', ne_eq, not_true, reduceCtorEq] at hc); (try (exfalso; omega))) | with_reducible (first | exact trivial | refine And.intro ?_ ?_ | exact rfl | exact Nat.le_refl _) | (refine inR_i64.mpr ?_; first | omega | (simp only [List.length_map]; omega)))
      refine round_end (i+1) hil (by omega) (by (refine xwk (π := [0, 1]) (by decide) rfl ?_ ?_; (first | simp -implicitDefEqProofs only [go_sem, Int.reduceEq, Int.reduceLT, Int.reduceLE, Nat.reduceAdd, Nat.reduceSub, Nat.reduceMul, Nat.reduceEqDiff, Nat.reduceLeDiff, Nat.reducePow, ↓reduceIte, reduceCtorEq, hset2]); repeat' (first | exact renE_n | ((with_reducible apply renE_c); exact rfl; focus (first | (simp -implicitDefEqProofs only [go_sem, Int.reduceEq, Int.reduceLT, Int.reduceLE, Nat.reduceAdd, Nat.reduceSub, Nat.reduceMul, Nat.reduceEqDiff, Nat.reduceLeDiff, Nat.reducePow, ↓reduceIte, reduceCtorEq, hset2]; done))))))
    have hi' : i = ls.length := by omega
    subst hi'
    repeat' (first | ((with_reducible apply xsim); (first | ((with_reducible apply xo); exact rfl) | with_reducible apply xend | ((with_reducible apply xcallLend [0]); exact rfl; exact csf; (focus (first | exact rfl | (simp -implicitDefEqProofs only [go_sem, ↓reduceIte, Nat.reduceEqDiff, List.length_map, hlen, ht2]; done))); exact rfl; exact rfl))) | ((with_reducible apply xaw); (first | ((with_reducible apply xstepS); refine AW.step tok rfl ?_) | with_reducible (first | refine AW.seq ?_ | refine AW.block ?_ | refine AW.skip ?_ | refine AW.ret ?_ | refine AW.exit ?_) | ((with_reducible apply xcond); exact rfl))) | with_reducible (first | refine xthen ?_ | refine xthen_r ?_ | refine xthen_e ?_ | refine xblock ?_ | refine xblock_r ?_ | refine xblock_e ?_ | refine xblock_n rfl ?_ | refine xround_r ?_ | refine xround_e ?_) | (with_reducible intro hc; (try simp only [decide_eq_true_eq, decide_eq_false_iff_not, Bool.not_true, Bool.not_false, Bool.not_eq_true', Bool.not_eq_false', ne_eq, not_true, reduceCtorEq, List.length_map, hlen, ht2] at hc); (try (exfalso; omega))) | with_reducible (first | exact trivial | refine And.intro ?_ ?_ | exact rfl | exact Nat.le_refl _) | (refine inR_i64.mpr ?_; first | omega | (simp only [List.length_map, List.length_map, hlen, ht2]; omega)))
    refine AW.loop (S := fun r : Nat => ⟨[(0, .d (.lst (ls.map encLine))), (7, .msl 0 1 0 ls.length), (12, .d (.int .i64 (sumI (putN ps 0 ls.length out) - room)))], [.arr 1 ((putN ps 0 ls.length out).map encN)], 116, 0⟩)
      (Pre := fun r => True) (μ := fun r => r) 0 trivial ?_ ?_
    · (refine xwk (π := [0]) (by decide) rfl ?_ ?_; (first | simp -implicitDefEqProofs only [go_sem, Int.reduceEq, Int.reduceLT, Int.reduceLE, Nat.reduceAdd, Nat.reduceSub, Nat.reduceMul, Nat.reduceEqDiff, Nat.reduceLeDiff, Nat.reducePow, ↓reduceIte, reduceCtorEq]); repeat' (first | exact renE_n | ((with_reducible apply renE_c); exact rfl; focus (first | (simp -implicitDefEqProofs only [go_sem, Int.reduceEq, Int.reduceLT, Int.reduceLE, Nat.reduceAdd, Nat.reduceSub, Nat.reduceMul, Nat.reduceEqDiff, Nat.reduceLeDiff, Nat.reducePow, ↓reduceIte, reduceCtorEq]; done)))))
    intro r _
    repeat' (first | ((with_reducible apply xsim); (first | ((with_reducible apply xo); exact rfl) | with_reducible apply xend)) | ((with_reducible apply xaw); (first | ((with_reducible apply xstepS); refine AW.step tok rfl ?_) | with_reducible (first | refine AW.seq ?_ | refine AW.block ?_ | refine AW.skip ?_ | refine AW.ret ?_ | refine AW.exit ?_) | ((with_reducible apply xcond); exact rfl))) | with_reducible (first | refine xthen ?_ | refine xthen_r ?_ | refine xthen_e ?_ | refine xblock ?_ | refine xblock_r ?_ | refine xblock_e ?_ | refine xblock_n rfl ?_ | refine xround_r ?_ | refine xround_e ?_) | (with_reducible intro hc; (try simp only [decide_eq_true_eq, decide_eq_false_iff_not, Bool.not_true, Bool.not_false, Bool.not_eq_true', Bool.not_eq_false', ne_eq, not_true, reduceCtorEq] at hc); (try (exfalso; omega))) | with_reducible (first | exact trivial | refine And.intro ?_ ?_ | exact rfl | exact Nat.le_refl _))
    (refine xfinOwn [0] (by first | exact .inl rfl | exact .inr rfl) rfl (by repeat' (first | exact trivial | exact rfl | refine And.intro ?_ ?_)) (by decide) rfl ?_ ?_ <;> simp -implicitDefEqProofs only [go_sem, Int.reduceEq, Int.reduceLT, Int.reduceLE, Nat.reduceAdd, Nat.reduceSub, Nat.reduceMul, Nat.reduceEqDiff, Nat.reduceLeDiff, Nat.reducePow, ↓reduceIte, reduceCtorEq, hlen])
end Go.Proofs.Ytemihgpcodcjgaa
