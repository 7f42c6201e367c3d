import Derived.Test.YtemihgpcodcjgaaG7
set_option linter.unusedSimpArgs false
set_option linter.unusedVariables false
namespace Go.Proofs.Ytemihgpcodcjgaa
open Go.Fw
@[go_sem] def lv114 : List (List Nat) := [[0, 1], [0, 1, 5], [0, 1, 5, 6], [0, 1, 5, 6, 18], [5], [4], [0, 1, 5, 6, 26, 27, 28], [0, 1, 5, 6, 26, 27, 28, 29], [0, 1, 5, 6, 7, 8, 26, 27, 28], [0, 1, 5, 6, 26, 27, 28], [0, 1, 5, 6, 26, 27, 28], [1, 5, 9], [5, 9, 46, 47, 48], [5, 9, 46, 47, 48, 49], [5, 9, 10, 11, 46, 47, 48], [5, 9, 10, 46, 47, 48, 58], [5, 9, 46, 47, 48], [5, 9, 46, 47, 48], [5, 9, 46, 47, 48], [4]]


structure WOk (ws : List Int) : Prop where
  lo : 1 ≤ ws.length
  hi : ws.length ≤ 5
  w : ∀ x ∈ ws, 0 ≤ x ∧ x ≤ 5
theorem WOk.nums {ws : List Int} (h : WOk ws) : NumsOk ws := ⟨by have := h.hi; omega, fun x hx => by have := h.w x hx; omega⟩
theorem WOk.sum {ws : List Int} (h : WOk ws) : 0 ≤ sumI ws := by
  have := (h.nums.sum ws.length (Nat.le_refl _)).1
  rwa [List.take_length] at this
theorem floors_len {n : Int} {ws : List Int} : (floors n ws).length = ws.length := by simp [floors]
theorem floors_at {n : Int} {ws : List Int} {k : Nat} (h : k < ws.length) : (floors n ws)[k]'(by rw [floors_len]; exact h) = (n * ws[k]).tdiv (sumI ws) := by simp [floors]

theorem floors_bd {n : Int} {ws : List Int} (h : WOk ws) (hn : 0 ≤ n ∧ n ≤ 2^20) : NumsOk (floors n ws) := by
  have hi := h.hi
  refine ⟨by rw [floors_len]; omega, fun x hx => ?_⟩
  obtain ⟨w, hw, rfl⟩ := List.mem_map.1 hx
  have hw := h.w w hw
  have m1 : 0 ≤ n * w := Int.mul_nonneg hn.1 hw.1
  have m2 : n * w ≤ 2^20 * 5 := Int.mul_le_mul hn.2 hw.2 hw.1 (by omega)
  have d1 : 0 ≤ (n * w).tdiv (sumI ws) := Int.tdiv_nonneg m1 h.sum
  have d2 : (n * w).tdiv (sumI ws) ≤ n * w := Int.tdiv_le_self _ m1
  omega
theorem bumpTo_at {ws bs : List Int} {m : Int} : ∀ k j, k ≤ j → (bumpTo ws bs m k).1[j]? = bs[j]? := by
  intro k
  induction k with
  | zero => intro j _; rfl
  | succ k ih =>
    intro j hj
    simp only [bumpTo]
    split
    · rw [List.getElem?_set_ne (by omega)]; exact ih j (by omega)
    · exact ih j (by omega)
theorem bumpTo_m {ws bs : List Int} {m : Int} : ∀ k, (bumpTo ws bs m k).2 ≤ m ∧ m - k ≤ (bumpTo ws bs m k).2 := by
  intro k
  induction k with
  | zero => simp [bumpTo]
  | succ k ih => simp only [bumpTo]; split <;> (try dsimp only) <;> omega

theorem bumpTo_succ {ws bs : List Int} {m : Int} {k : Nat} (h : k < ws.length) (h' : k < bs.length) : bumpTo ws bs m (k + 1) = if ws[k] ≠ 0 ∧ 0 < (bumpTo ws bs m k).2 then ((bumpTo ws bs m k).1.set k (bs[k] + 1), (bumpTo ws bs m k).2 - 1) else bumpTo ws bs m k := by
  rw [bumpTo]
  simp only [bumpTo_at k k (Nat.le_refl _), List.getElem?_eq_getElem h, List.getElem?_eq_getElem h', Option.getD_some]

def zN : List D := [.int .i64 0]
def ONums (xs : List Int) : V → List O → Prop := ORows encN 1 xs

theorem c_spreadI (n : Int) (ws : List Int) (hn : 0 ≤ n ∧ n ≤ 2^20) (hw : WOk ws) : ACon Try.prog 114 [.d (.int .i64 n), .d (.lst (ws.map encN))] [] (ONums (spread n ws)) := by
  have hlo := hw.lo; have hhi := hw.hi
  have hsum := hw.nums.sum ws.length (Nat.le_refl _)
  rw [List.take_length] at hsum
  have cs := c_sum ws hw.nums
  have hfb := floors_bd hw hn
  have hfl := floors_len (n := n) (ws := ws)
  have cf := c_sum (floors n ws) hfb
  have hfs := hfb.sum _ (Nat.le_refl _)
  rw [List.take_length, hfl] at hfs
  by_cases h0 : sumI ws = 0
  · refine ACon.introW tok (nt := 69) Try.func114 rfl rfl rfl (by kernel_rfl) rfl ?_
    have hz : (List.replicate ws.length [D.int .i64 0])[((ws.length : Int) - 1).toNat]? = some [D.int .i64 0] := by rw [List.getElem?_replicate, if_pos (by omega)]
    have he : (spread n ws).map encN = (List.replicate ws.length [D.int .i64 0]).set ((ws.length : Int) - 1).toNat [D.int .i64 n] := by
      rw [spread, if_pos h0, show ((ws.length : Int) - 1).toNat = ws.length - 1 by omega, List.map_set]
      congr 1
      rw [List.map_map]
      exact List.map_const' ..
    have hsl : (spread n ws).length = ws.length := by rw [spread, if_pos h0]; simp
    repeat' (first | ((with_reducible apply xsim); (first | ((with_reducible apply xlenM); exact rfl; exact rfl) | ((with_reducible apply xo); exact rfl) | with_reducible apply xend | ((with_reducible apply xidxM); exact rfl; exact rfl; exact rfl; omega; omega; exact rfl) | ((with_reducible apply xstA); exact rfl; exact rfl; exact rfl; exact rfl; (first | exact hz); exact rfl; exact rfl; exact rfl; exact rfl; (try simp only [List.set_cons_zero, List.set_cons_succ, List.length_map, List.length_replicate])) | ((with_reducible apply xcallIs); exact rfl; exact rfl; exact cs; exact rfl) | simp -implicitDefEqProofs only [go_sem, Int.reduceEq, Int.reduceLT, Int.reduceLE, Nat.reduceAdd, Nat.reduceSub, Nat.reduceMul, Nat.reduceEqDiff, Nat.reduceLeDiff, Nat.reducePow, ↓reduceIte, reduceCtorEq, List.length_map, List.length_replicate])) | ((with_reducible apply xaw); (first | ((with_reducible apply xstepS); refine AW.step tok rfl ?_) | with_reducible (first | refine AW.seq ?_ | refine AW.block ?_ | refine AW.skip ?_ | refine AW.ret ?_ | refine AW.exit ?_) | ((with_reducible apply xcond); exact rfl))) | with_reducible (first | refine xthen ?_ | refine xthen_r ?_ | refine xthen_e ?_ | refine xblock ?_ | refine xblock_r ?_ | refine xblock_e ?_ | refine xblock_n rfl ?_ | refine xround_r ?_ | refine xround_e ?_) | (with_reducible intro hc; (try simp only [decide_eq_true_eq, decide_eq_false_iff_not, Bool.not_true, Bool.not_false, Bool.not_eq_true', Bool.not_eq_false', ne_eq, not_true, reduceCtorEq, List.length_map, List.length_replicate] at hc); (try (exfalso; omega))) | with_reducible (first | exact trivial | refine And.intro ?_ ?_ | exact rfl | exact Nat.le_refl _) | exact Eq.refl true | (refine inR_i64.mpr ?_; first | omega | (simp only [List.length_map, List.length_map, List.length_replicate]; omega)) | omega)
    (refine xfinOwn [0] (by first | exact .inl rfl | exact .inr rfl) rfl (by repeat' (first | exact trivial | exact rfl | refine And.intro ?_ ?_)) (by decide) rfl ?_ ?_ <;> simp -implicitDefEqProofs only [go_sem, Int.reduceEq, Int.reduceLT, Int.reduceLE, Nat.reduceAdd, Nat.reduceSub, Nat.reduceMul, Nat.reduceEqDiff, Nat.reduceLeDiff, Nat.reducePow, ↓reduceIte, reduceCtorEq, he, hsl])
  · have he : spread n ws = (bumpTo ws (floors n ws) (n - sumI (floors n ws)) ws.length).1 := by rw [spread, if_neg h0]
    refine ACon.introW tok (nt := 69) Try.func114 rfl rfl rfl (by kernel_rfl) rfl ?_
    repeat' (first | ((with_reducible apply xsim); (first | ((with_reducible apply xlenM); exact rfl; exact rfl) | ((with_reducible apply xo); exact rfl) | with_reducible apply xend | ((with_reducible apply xcallIs); exact rfl; exact rfl; exact cs; exact rfl) | simp -implicitDefEqProofs only [go_sem, Int.reduceEq, Int.reduceLT, Int.reduceLE, Nat.reduceAdd, Nat.reduceSub, Nat.reduceMul, Nat.reduceEqDiff, Nat.reduceLeDiff, Nat.reducePow, ↓reduceIte, reduceCtorEq, List.length_map, List.length_replicate])) | ((with_reducible apply xaw); (first | ((with_reducible apply xstepS); refine AW.step tok rfl ?_) | with_reducible (first | refine AW.seq ?_ | refine AW.block ?_ | refine AW.skip ?_ | refine AW.ret ?_ | refine AW.exit ?_) | ((with_reducible apply xcond); exact rfl))) | with_reducible (first | refine xthen ?_ | refine xthen_r ?_ | refine xthen_e ?_ | refine xblock ?_ | refine xblock_r ?_ | refine xblock_e ?_ | refine xblock_n rfl ?_ | refine xround_r ?_ | refine xround_e ?_) | (with_reducible intro hc; (try simp only [decide_eq_true_eq, decide_eq_false_iff_not, Bool.not_true, Bool.not_false, Bool.not_eq_true', Bool.not_eq_false', ne_eq, not_true, reduceCtorEq, List.length_map, List.length_replicate] at hc); (try (exfalso; omega))) | with_reducible (first | exact trivial | refine And.intro ?_ ?_ | exact rfl | exact Nat.le_refl _) | omega)
    refine AW.loop (S := fun k : Nat => ⟨[(0, .d (.int .i64 n)), (1, .d (.lst (ws.map encN))), (5, .msl 0 1 0 ws.length), (6, .d (.int .i64 (sumI ws))), (26, .d (.lst (ws.map encN))), (27, .d (.int .i64 ws.length)), (28, .d (.int .i64 k))], [.arr 1 (fillRows encN zN (floors n ws) k)], 69, 0⟩)
      (Pre := fun k => k ≤ ws.length) (μ := fun k => ws.length - k) 0 (Nat.zero_le _) ?_ ?_
    · (refine xwk (π := [0]) (by decide) rfl ?_ ?_; (first | simp -implicitDefEqProofs only [go_sem, Int.reduceEq, Int.reduceLT, Int.reduceLE, Nat.reduceAdd, Nat.reduceSub, Nat.reduceMul, Nat.reduceEqDiff, Nat.reduceLeDiff, Nat.reducePow, ↓reduceIte, reduceCtorEq, fillRows_zero, zN, hfl]); repeat' (first | exact renE_n | ((with_reducible apply renE_c); exact rfl; focus (first | (simp -implicitDefEqProofs only [go_sem, Int.reduceEq, Int.reduceLT, Int.reduceLE, Nat.reduceAdd, Nat.reduceSub, Nat.reduceMul, Nat.reduceEqDiff, Nat.reduceLeDiff, Nat.reducePow, ↓reduceIte, reduceCtorEq, fillRows_zero, zN, hfl]; done)))))
    · intro k hk
      by_cases hlt : k < ws.length
      · have hrow := at_map (f := encN) hlt
        have hx := hw.w _ (List.getElem_mem hlt)
        have m1 : 0 ≤ n * ws[k] := Int.mul_nonneg hn.1 hx.1
        have m2 : n * ws[k] ≤ 2^20 * 5 := Int.mul_le_mul hn.2 hx.2 hx.1 (by omega)
        have d1 : 0 ≤ (n * ws[k]).tdiv (sumI ws) := Int.tdiv_nonneg m1 hw.sum
        have d2 : (n * ws[k]).tdiv (sumI ws) ≤ n * ws[k] := Int.tdiv_le_self _ m1
        have hz := fillRows_at (enc := encN) (z := zN) (show k < (floors n ws).length by omega)
        have hset := fillRows_set (enc := encN) (z := zN) (show k < (floors n ws).length by omega)
        rw [floors_at hlt] at hset
        simp only [encN] at hset
        repeat' (first | ((with_reducible apply xsim); (first | ((with_reducible apply xo); exact rfl) | with_reducible apply xend | ((with_reducible apply xidxL); exact rfl; exact rfl; exact rfl; (first | exact hrow | exact hz); omega; first | exact rfl | simp only [hsz]) | ((with_reducible apply xidxM); exact rfl; exact rfl; exact rfl; omega; omega; exact rfl) | ((with_reducible apply xstA); exact rfl; exact rfl; exact rfl; exact rfl; (first | exact hrow | exact hz); exact rfl; exact rfl; exact rfl; exact rfl; (try simp only [List.set_cons_zero, List.set_cons_succ, List.length_map])))) | ((with_reducible apply xaw); (first | ((with_reducible apply xstepS); refine AW.step tok rfl ?_) | ((with_reducible apply xstep); refine AW.region tok rfl ?_) | with_reducible (first | refine AW.seq ?_ | refine AW.block ?_ | refine AW.skip ?_ | refine AW.ret ?_ | refine AW.exit ?_) | ((with_reducible apply xcond); exact rfl))) | with_reducible (first | refine xthen ?_ | refine xthen_r ?_ | refine xthen_e ?_ | refine xblock ?_ | refine xblock_r ?_ | refine xblock_e ?_ | refine xblock_n rfl ?_ | refine xround_r ?_ | refine xround_e ?_) | (with_reducible intro hc; (try simp only [decide_eq_true_eq, decide_eq_false_iff_not, Bool.not_true, Bool.not_false, Bool.not_eq_true', Bool.not_eq_false', ne_eq, not_true, reduceCtorEq, List.length_map] at hc); (try (exfalso; omega))) | with_reducible (first | exact trivial | refine And.intro ?_ ?_ | exact rfl | exact Nat.le_refl _) | (refine inR_i64.mpr ?_; first | omega | (simp only [List.length_map, List.length_map]; omega)) | omega)
        refine round_end (k+1) hlt (by omega) (by (refine xwk (π := [0]) (by decide) rfl ?_ ?_; (first | simp -implicitDefEqProofs only [go_sem, Int.reduceEq, Int.reduceLT, Int.reduceLE, Nat.reduceAdd, Nat.reduceSub, Nat.reduceMul, Nat.reduceEqDiff, Nat.reduceLeDiff, Nat.reducePow, ↓reduceIte, reduceCtorEq, hset]); repeat' (first | exact renE_n | ((with_reducible apply renE_c); exact rfl; focus (first | (simp -implicitDefEqProofs only [go_sem, Int.reduceEq, Int.reduceLT, Int.reduceLE, Nat.reduceAdd, Nat.reduceSub, Nat.reduceMul, Nat.reduceEqDiff, Nat.reduceLeDiff, Nat.reducePow, ↓reduceIte, reduceCtorEq, hset]; done))))))
      · have hk' : k = ws.length := by omega
        subst hk'
        have hall := fillRows_all (enc := encN) (z := zN) (xs := floors n ws)
        rw [hfl] at hall
        rw [hall]
        have htk : List.take ws.length (List.map encN (floors n ws)) = List.map encN (floors n ws) := List.take_of_length_le (by simp [hfl])
        repeat' (first | ((with_reducible apply xsim); (first | ((with_reducible apply xlenM); exact rfl; exact rfl) | ((with_reducible apply xo); exact rfl) | with_reducible apply xend | ((with_reducible apply xcallLend [0]); exact rfl; exact cf; (focus (first | exact rfl | (simp -implicitDefEqProofs only [go_sem, ↓reduceIte, Nat.reduceEqDiff, List.length_map, hfl, htk]; done))); exact rfl; exact rfl))) | ((with_reducible apply xaw); (first | ((with_reducible apply xstepS); refine AW.step tok rfl ?_) | with_reducible (first | refine AW.seq ?_ | refine AW.block ?_ | refine AW.skip ?_ | refine AW.ret ?_ | refine AW.exit ?_) | ((with_reducible apply xcond); exact rfl))) | with_reducible (first | refine xthen ?_ | refine xthen_r ?_ | refine xthen_e ?_ | refine xblock ?_ | refine xblock_r ?_ | refine xblock_e ?_ | refine xblock_n rfl ?_ | refine xround_r ?_ | refine xround_e ?_) | (with_reducible intro hc; (try simp only [decide_eq_true_eq, decide_eq_false_iff_not, Bool.not_true, Bool.not_false, Bool.not_eq_true', Bool.not_eq_false', ne_eq, not_true, reduceCtorEq, List.length_map, hfl, htk] at hc); (try (exfalso; omega))) | with_reducible (first | exact trivial | refine And.intro ?_ ?_ | exact rfl | exact Nat.le_refl _) | (refine inR_i64.mpr ?_; first | omega | (simp only [List.length_map, List.length_map, hfl, htk]; omega)))
        generalize hB : bumpTo ws (floors n ws) (n - sumI (floors n ws)) = B at *
        have hBl : ∀ k, (B k).1.length = ws.length := fun k => by rw [← hB, bumpTo_len, hfl]
        have hBm : ∀ k : Nat, (B k).2 ≤ n - sumI (floors n ws) ∧ n - sumI (floors n ws) - k ≤ (B k).2 := fun k => by rw [← hB]; exact bumpTo_m k
        have hB0 : B 0 = (floors n ws, n - sumI (floors n ws)) := by rw [← hB]; rfl
        have hBs : ∀ k (h : k < ws.length), B (k + 1) = if ws[k] ≠ 0 ∧ 0 < (B k).2 then ((B k).1.set k ((floors n ws)[k]'(by omega) + 1), (B k).2 - 1) else B k := fun k h => by
          rw [← hB]; exact bumpTo_succ h _
        refine AW.loop (S := fun k : Nat => ⟨[(5, .msl 0 1 0 ws.length), (9, .d (.int .i64 (B k).2)), (46, .d (.lst (ws.map encN))), (47, .d (.int .i64 ws.length)), (48, .d (.int .i64 k))], [.arr 1 ((B k).1.map encN)], 69, 0⟩)
          (Pre := fun k => k ≤ ws.length) (μ := fun k => ws.length - k) 0 (Nat.zero_le _) ?_ ?_
        · (refine xwk (π := [0]) (by decide) rfl ?_ ?_; (first | simp -implicitDefEqProofs only [go_sem, Int.reduceEq, Int.reduceLT, Int.reduceLE, Nat.reduceAdd, Nat.reduceSub, Nat.reduceMul, Nat.reduceEqDiff, Nat.reduceLeDiff, Nat.reducePow, ↓reduceIte, reduceCtorEq, hB0]); repeat' (first | exact renE_n | ((with_reducible apply renE_c); exact rfl; focus (first | (simp -implicitDefEqProofs only [go_sem, Int.reduceEq, Int.reduceLT, Int.reduceLE, Nat.reduceAdd, Nat.reduceSub, Nat.reduceMul, Nat.reduceEqDiff, Nat.reduceLeDiff, Nat.reducePow, ↓reduceIte, reduceCtorEq, hB0]; done)))))
        · intro k hk
          have hm := hBm k
          by_cases hlt : k < ws.length
          · have hrow := at_map (f := encN) hlt
            have hx := hw.w _ (List.getElem_mem hlt)
            have hf := hfb.at (show k < (floors n ws).length by omega)
            have hz : ((B k).1.map encN)[k]? = some [.int .i64 ((floors n ws)[k]'(by omega))] := by
              rw [List.getElem?_map, ← hB, bumpTo_at k k (Nat.le_refl _), List.getElem?_eq_getElem (show k < (floors n ws).length by omega)]; rfl
            repeat' (first | ((with_reducible apply xsim); (first | ((with_reducible apply xo); exact rfl) | with_reducible apply xend | ((with_reducible apply xguardS); exact rfl; exact rfl) | ((with_reducible apply xidxL); exact rfl; exact rfl; exact rfl; (first | exact hrow | exact hz); omega; first | exact rfl | simp only [hsz]) | ((with_reducible apply xidxM); exact rfl; exact rfl; exact rfl; omega; omega; exact rfl) | ((with_reducible apply xldA); exact rfl; exact rfl; exact rfl; (first | exact hrow | exact hz); exact rfl) | ((with_reducible apply xstA); exact rfl; exact rfl; exact rfl; exact rfl; (first | exact hrow | exact hz); exact rfl; exact rfl; exact rfl; exact rfl; (try simp only [List.set_cons_zero, List.set_cons_succ, List.length_map])))) | ((with_reducible apply xaw); (first | ((with_reducible apply xstepS); refine AW.step tok rfl ?_) | ((with_reducible apply xstep); refine AW.region tok rfl ?_) | with_reducible (first | refine AW.seq ?_ | refine AW.block ?_ | refine AW.skip ?_ | refine AW.ret ?_ | refine AW.exit ?_) | ((with_reducible apply xcond); exact rfl))) | with_reducible (first | refine xthen ?_ | refine xthen_r ?_ | refine xthen_e ?_ | refine xblock ?_ | refine xblock_r ?_ | refine xblock_e ?_ | refine xblock_n rfl ?_ | refine xround_r ?_ | refine xround_e ?_) | (with_reducible intro hc; (try simp only [decide_eq_true_eq, decide_eq_false_iff_not, Bool.not_true, Bool.not_false, Bool.not_eq_true', Bool.not_eq_false', ne_eq, not_true, reduceCtorEq, List.length_map] at hc); (try (exfalso; omega))) | with_reducible (first | exact trivial | refine And.intro ?_ ?_ | exact rfl | exact Nat.le_refl _) | (refine inR_i64.mpr ?_; first | omega | (simp only [List.length_map, List.length_map]; omega)))
            all_goals have hb := hBs k hlt
            · rw [if_pos (by omega)] at hb
              refine round_end (k+1) hlt (by omega) (by (refine xwk (π := [0]) (by decide) rfl ?_ ?_; (first | simp -implicitDefEqProofs only [go_sem, Int.reduceEq, Int.reduceLT, Int.reduceLE, Nat.reduceAdd, Nat.reduceSub, Nat.reduceMul, Nat.reduceEqDiff, Nat.reduceLeDiff, Nat.reducePow, ↓reduceIte, reduceCtorEq, hb, List.map_set, encN]); repeat' (first | exact renE_n | ((with_reducible apply renE_c); exact rfl; focus (first | (simp -implicitDefEqProofs only [go_sem, Int.reduceEq, Int.reduceLT, Int.reduceLE, Nat.reduceAdd, Nat.reduceSub, Nat.reduceMul, Nat.reduceEqDiff, Nat.reduceLeDiff, Nat.reducePow, ↓reduceIte, reduceCtorEq, hb, List.map_set, encN]; done))))))
            all_goals (rw [if_neg (by omega)] at hb; refine round_end (k+1) hlt (by omega) (by (refine xwk (π := [0]) (by decide) rfl ?_ ?_; (first | simp -implicitDefEqProofs only [go_sem, Int.reduceEq, Int.reduceLT, Int.reduceLE, Nat.reduceAdd, Nat.reduceSub, Nat.reduceMul, Nat.reduceEqDiff, Nat.reduceLeDiff, Nat.reducePow, ↓reduceIte, reduceCtorEq, hb]); repeat' (first | exact renE_n | ((with_reducible apply renE_c); exact rfl; focus (first | (simp -implicitDefEqProofs only [go_sem, Int.reduceEq, Int.reduceLT, Int.reduceLE, Nat.reduceAdd, Nat.reduceSub, Nat.reduceMul, Nat.reduceEqDiff, Nat.reduceLeDiff, Nat.reducePow, ↓reduceIte, reduceCtorEq, hb]; done)))))))
          · have hk' : k = ws.length := by omega
            subst hk'
            repeat' (first | ((with_reducible apply xsim); (first | ((with_reducible apply xo); exact rfl) | with_reducible apply xend)) | ((with_reducible apply xaw); (first | ((with_reducible apply xstepS); refine AW.step tok rfl ?_) | with_reducible (first | refine AW.seq ?_ | refine AW.block ?_ | refine AW.skip ?_ | refine AW.ret ?_ | refine AW.exit ?_) | ((with_reducible apply xcond); exact rfl))) | with_reducible (first | refine xthen ?_ | refine xthen_r ?_ | refine xthen_e ?_ | refine xblock ?_ | refine xblock_r ?_ | refine xblock_e ?_ | refine xblock_n rfl ?_ | refine xround_r ?_ | refine xround_e ?_) | (with_reducible intro hc; (try simp only [decide_eq_true_eq, decide_eq_false_iff_not, Bool.not_true, Bool.not_false, Bool.not_eq_true', Bool.not_eq_false', ne_eq, not_true, reduceCtorEq, List.length_map] at hc); (try (exfalso; omega))) | with_reducible (first | exact trivial | refine And.intro ?_ ?_ | exact rfl | exact Nat.le_refl _))
            (refine xfinOwn [0] (by first | exact .inl rfl | exact .inr rfl) rfl (by repeat' (first | exact trivial | exact rfl | refine And.intro ?_ ?_)) (by decide) rfl ?_ ?_ <;> simp -implicitDefEqProofs only [go_sem, Int.reduceEq, Int.reduceLT, Int.reduceLE, Nat.reduceAdd, Nat.reduceSub, Nat.reduceMul, Nat.reduceEqDiff, Nat.reduceLeDiff, Nat.reducePow, ↓reduceIte, reduceCtorEq, he, hBl])
end Go.Proofs.Ytemihgpcodcjgaa
