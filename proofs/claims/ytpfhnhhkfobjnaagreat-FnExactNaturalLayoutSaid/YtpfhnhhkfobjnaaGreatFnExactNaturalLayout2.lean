/- Contracts of the functions and the plain law behind them, as far as FnExactNaturalLayout needs them; joined out of the texts G8 G9 G10 G12 G16 G18 K7 T9 G11 G13 G14 G15 G20 G23 G24 G25 T10 T11 R11. -/
import Derived.Deep.Slices
import Derived.Deep.Fields
import Derived.ChangeSame
import Derived.Below
import Derived.ProofKit
import Derived.Test.YtpfhnhhkfobjnaaGreatFnExactNaturalLayout1
set_option linter.unusedSimpArgs false
set_option linter.unusedVariables false
namespace Go.Proofs.YtpfhnhhkfobjnaaGreat
open Go.Fw
attribute [local irreducible] Go.Fw.aops Go.Fw.arun

structure WOk (ws : List Int) : Prop where
  lo : 1 ≤ ws.length
  hi : ws.length ≤ 5
  w : ∀ x ∈ ws, 0 ≤ x ∧ x ≤ 5
theorem WOk.nums {ws : List Int} (h : WOk ws) : NumsOk ws := ⟨by have := h.hi; omega, fun x hx => by have := h.w x hx; omega⟩
theorem WOk.sum {ws : List Int} (h : WOk ws) : 0 ≤ sumI ws := by
  have := (h.nums.sum ws.length (Nat.le_refl _)).1
  rwa [List.take_length] at this
theorem floors_len {n : Int} {ws : List Int} : (floors n ws).length = ws.length := by simp [floors]
theorem floors_at {n : Int} {ws : List Int} {k : Nat} (h : k < ws.length) : (floors n ws)[k]'(by rw [floors_len]; exact h) = (n * ws[k]).tdiv (sumI ws) := by simp [floors]

theorem floors_bd {n : Int} {ws : List Int} (h : WOk ws) (hn : 0 ≤ n ∧ n ≤ 2^27) : NumsOk (floors n ws) := by
  have hi := h.hi
  refine ⟨by rw [floors_len]; omega, fun x hx => ?_⟩
  obtain ⟨w, hw, rfl⟩ := List.mem_map.1 hx
  have hw := h.w w hw
  have m1 : 0 ≤ n * w := Int.mul_nonneg hn.1 hw.1
  have m2 : n * w ≤ 2^27 * 5 := Int.mul_le_mul hn.2 hw.2 hw.1 (by omega)
  have d1 : 0 ≤ (n * w).tdiv (sumI ws) := Int.tdiv_nonneg m1 h.sum
  have d2 : (n * w).tdiv (sumI ws) ≤ n * w := Int.tdiv_le_self _ m1
  omega
theorem bumpTo_at {ws bs : List Int} {m : Int} : ∀ k j, k ≤ j → (bumpTo ws bs m k).1[j]? = bs[j]? := by
  intro k
  induction k with
  | zero => intro j _; rfl
  | succ k ih =>
    intro j hj
    simp only [bumpTo]
    split
    · rw [List.getElem?_set_ne (by omega)]; exact ih j (by omega)
    · exact ih j (by omega)
theorem bumpTo_m {ws bs : List Int} {m : Int} : ∀ k, (bumpTo ws bs m k).2 ≤ m ∧ m - k ≤ (bumpTo ws bs m k).2 := by
  intro k
  induction k with
  | zero => simp [bumpTo]
  | succ k ih => simp only [bumpTo]; split <;> (try dsimp only) <;> omega

theorem bumpTo_succ {ws bs : List Int} {m : Int} {k : Nat} (h : k < ws.length) (h' : k < bs.length) : bumpTo ws bs m (k + 1) = if ws[k] ≠ 0 ∧ 0 < (bumpTo ws bs m k).2 then ((bumpTo ws bs m k).1.set k (bs[k] + 1), (bumpTo ws bs m k).2 - 1) else bumpTo ws bs m k := by
  rw [bumpTo]
  simp only [bumpTo_at k k (Nat.le_refl _), List.getElem?_eq_getElem h, List.getElem?_eq_getElem h', Option.getD_some]

def zN : List D := [.int .i64 0]
def ONums (xs : List Int) : V → List O → Prop := ORows encN 1 xs

theorem c_spreadI (n : Int) (ws : List Int) (hn : 0 ≤ n ∧ n ≤ 2^27) (hw : WOk ws) : ACon Tryz.prog 141 [.d (.int .i64 n), .d (.lst (ws.map encN))] [] (ONums (spread n ws)) := by
  have hlo := hw.lo; have hhi := hw.hi
  have hsum := hw.nums.sum ws.length (Nat.le_refl _)
  rw [List.take_length] at hsum
  have cs := c_sum ws hw.nums
  have hfb := floors_bd hw hn
  have hfl := floors_len (n := n) (ws := ws)
  have cf := c_sum (floors n ws) hfb
  have hfs := hfb.sum _ (Nat.le_refl _)
  rw [List.take_length, hfl] at hfs
  by_cases h0 : sumI ws = 0
  · refine ACon.introW tok (nt := 69) Tryz.func141 rfl rfl rfl (by kernel_rfl) rfl ?_
    have hz : (List.replicate ws.length [D.int .i64 0])[((ws.length : Int) - 1).toNat]? = some [D.int .i64 0] := by rw [List.getElem?_replicate, if_pos (by omega)]
    have he : (spread n ws).map encN = (List.replicate ws.length [D.int .i64 0]).set ((ws.length : Int) - 1).toNat [D.int .i64 n] := by
      rw [spread, if_pos h0, show ((ws.length : Int) - 1).toNat = ws.length - 1 by omega, List.map_set]
      congr 1
      rw [List.map_map]
      exact List.map_const' ..
    have hsl : (spread n ws).length = ws.length := by rw [spread, if_pos h0]; simp
    repeat' (first | ((with_reducible apply xsim); (first | ((with_reducible apply xlenM); exact rfl; exact rfl) | ((with_reducible apply xo); exact rfl) | with_reducible apply xend | ((with_reducible apply xidxM); exact rfl; exact rfl; exact rfl; omega; omega; exact rfl) | ((with_reducible apply xstA); exact rfl; exact rfl; exact rfl; exact rfl; (first | exact hz); exact rfl; exact rfl; exact rfl; exact rfl; (try simp only [List.set_cons_zero, List.set_cons_succ, List.length_map, List.length_replicate])) | ((with_reducible apply xcallIs); exact rfl; exact rfl; exact cs; exact rfl) | simp -implicitDefEqProofs only [go_sem, List.length_map, List.length_replicate])) | ((with_reducible apply xaw); (first | ((with_reducible apply xstepS); refine AW.step tok rfl ?_) | with_reducible (first | refine AW.seq ?_ | refine AW.ret ?_) | ((with_reducible apply xcond); exact rfl))) | with_reducible refine xthen_r ?_ | (with_reducible intro hc; (try simp only [hcL, reduceCtorEq, List.length_map, List.length_replicate] at hc); (try (exfalso; omega))) | with_reducible (first | exact trivial | refine And.intro ?_ ?_ | exact rfl) | exact Eq.refl true | (refine inR_i64.mpr ?_; first | omega | (simp only [List.length_map, List.length_map, List.length_replicate]; omega)) | omega)
    (refine xfinOwn [0] (by first | exact .inl rfl | exact .inr rfl) rfl (by repeat' (first | exact trivial | exact rfl | refine And.intro ?_ ?_)) (by decide) rfl ?_ ?_ <;> simp -implicitDefEqProofs only [go_sem, he, hsl])
  · have he : spread n ws = (bumpTo ws (floors n ws) (n - sumI (floors n ws)) ws.length).1 := by rw [spread, if_neg h0]
    refine ACon.introW tok (nt := 69) Tryz.func141 rfl rfl rfl (by kernel_rfl) rfl ?_
    repeat' (first | ((with_reducible apply xsim); (first | ((with_reducible apply xlenM); exact rfl; exact rfl) | ((with_reducible apply xo); exact rfl) | with_reducible apply xend | ((with_reducible apply xcallIs); exact rfl; exact rfl; exact cs; exact rfl) | simp -implicitDefEqProofs only [go_sem, List.length_map, List.length_replicate])) | ((with_reducible apply xaw); (first | ((with_reducible apply xstepS); refine AW.step tok rfl ?_) | with_reducible (first | refine AW.seq ?_ | refine AW.block ?_ | refine AW.skip ?_) | ((with_reducible apply xcond); exact rfl))) | with_reducible refine xthen ?_ | (with_reducible intro hc; (try simp only [hcL, reduceCtorEq, List.length_map, List.length_replicate] at hc); (try (exfalso; omega))) | with_reducible (first | exact trivial | refine And.intro ?_ ?_ | exact rfl) | omega)
    refine AW.loop (S := fun k : Nat => ⟨[(0, .d (.int .i64 n)), (1, .d (.lst (ws.map encN))), (5, .msl 0 1 0 ws.length), (6, .d (.int .i64 (sumI ws))), (26, .d (.lst (ws.map encN))), (27, .d (.int .i64 ws.length)), (28, .d (.int .i64 k))], [.arr 1 (fillRows encN zN (floors n ws) k)], 69, .p 0⟩)
      (Pre := fun k => k ≤ ws.length) (μ := fun k => ws.length - k) 0 (Nat.zero_le _) ?_ ?_
    · (refine xwk (π := [0]) (by decide) rfl ?_ ?_; (first | simp -implicitDefEqProofs only [go_sem, fillRows_zero, zN, hfl]); repeat' (first | exact renE_n | ((with_reducible apply renE_c); exact rfl; focus (first | (simp -implicitDefEqProofs only [go_sem, fillRows_zero, zN, hfl]; done)))))
    · intro k hk
      by_cases hlt : k < ws.length
      · have hrow := at_map (f := encN) hlt
        have hx := hw.w _ (List.getElem_mem hlt)
        have m1 : 0 ≤ n * ws[k] := Int.mul_nonneg hn.1 hx.1
        have m2 : n * ws[k] ≤ 2^27 * 5 := Int.mul_le_mul hn.2 hx.2 hx.1 (by omega)
        have d1 : 0 ≤ (n * ws[k]).tdiv (sumI ws) := Int.tdiv_nonneg m1 hw.sum
        have d2 : (n * ws[k]).tdiv (sumI ws) ≤ n * ws[k] := Int.tdiv_le_self _ m1
        have hz := fillRows_at (enc := encN) (z := zN) (show k < (floors n ws).length by omega)
        have hset := fillRows_set (enc := encN) (z := zN) (show k < (floors n ws).length by omega)
        rw [floors_at hlt] at hset
        simp only [encN] at hset
        repeat' (first | ((with_reducible apply xsim); (first | ((with_reducible apply xo); exact rfl) | with_reducible apply xend | ((with_reducible apply xidxL); exact rfl; exact rfl; exact rfl; (first | exact hrow | exact hz); omega; first | exact rfl | simp only [hsz]) | ((with_reducible apply xidxM); exact rfl; exact rfl; exact rfl; omega; omega; exact rfl) | ((with_reducible apply xstA); exact rfl; exact rfl; exact rfl; exact rfl; (first | exact hrow | exact hz); exact rfl; exact rfl; exact rfl; exact rfl; (try simp only [List.set_cons_zero, List.set_cons_succ, List.length_map])))) | ((with_reducible apply xaw); (first | ((with_reducible apply xstepS); refine AW.step tok rfl ?_) | ((with_reducible apply xstep); refine AW.region tok rfl ?_) | with_reducible (first | refine AW.seq ?_ | refine AW.block ?_ | refine AW.skip ?_) | ((with_reducible apply xcond); exact rfl))) | with_reducible (first | refine xthen ?_ | refine xblock ?_) | (with_reducible intro hc; (try simp only [hcL, reduceCtorEq, List.length_map] at hc); (try (exfalso; omega))) | with_reducible (first | exact trivial | refine And.intro ?_ ?_ | exact rfl) | (refine inR_i64.mpr ?_; first | omega | (simp only [List.length_map, List.length_map]; omega)) | omega)
        refine round_end (k+1) hlt (by omega) (by (refine xwk (π := [0]) (by decide) rfl ?_ ?_; (first | simp -implicitDefEqProofs only [go_sem, hset]); repeat' (first | exact renE_n | ((with_reducible apply renE_c); exact rfl; focus (first | (simp -implicitDefEqProofs only [go_sem, hset]; done))))))
      · have hk' : k = ws.length := by omega
        subst hk'
        have hall := fillRows_all (enc := encN) (z := zN) (xs := floors n ws)
        rw [hfl] at hall
        rw [hall]
        have htk : List.take ws.length (List.map encN (floors n ws)) = List.map encN (floors n ws) := List.take_of_length_le (by simp [hfl])
        repeat' (first | ((with_reducible apply xsim); (first | ((with_reducible apply xlenM); exact rfl; exact rfl) | ((with_reducible apply xo); exact rfl) | with_reducible apply xend | ((with_reducible apply xcallLend [0]); exact rfl; exact cf; (focus (first | exact rfl | (simp -implicitDefEqProofs only [go_sem, ↓reduceIte, Nat.reduceEqDiff, List.length_map, hfl, htk]; done))); exact rfl; exact rfl))) | ((with_reducible apply xaw); (first | ((with_reducible apply xstepS); refine AW.step tok rfl ?_) | with_reducible (first | refine AW.seq ?_ | refine AW.block ?_ | refine AW.exit ?_) | ((with_reducible apply xcond); exact rfl))) | with_reducible (first | refine xthen ?_ | refine xthen_e ?_ | refine xblock_e ?_ | refine xround_e ?_) | (with_reducible intro hc; (try simp only [hcL, reduceCtorEq, List.length_map, hfl, htk] at hc); (try (exfalso; omega))) | with_reducible (first | exact trivial | refine And.intro ?_ ?_ | exact rfl) | (refine inR_i64.mpr ?_; first | omega | (simp only [List.length_map, List.length_map, hfl, htk]; omega)))
        generalize hB : bumpTo ws (floors n ws) (n - sumI (floors n ws)) = B at *
        have hBl : ∀ k, (B k).1.length = ws.length := fun k => by rw [← hB, bumpTo_len, hfl]
        have hBm : ∀ k : Nat, (B k).2 ≤ n - sumI (floors n ws) ∧ n - sumI (floors n ws) - k ≤ (B k).2 := fun k => by rw [← hB]; exact bumpTo_m k
        have hB0 : B 0 = (floors n ws, n - sumI (floors n ws)) := by rw [← hB]; rfl
        have hBs : ∀ k (h : k < ws.length), B (k + 1) = if ws[k] ≠ 0 ∧ 0 < (B k).2 then ((B k).1.set k ((floors n ws)[k]'(by omega) + 1), (B k).2 - 1) else B k := fun k h => by
          rw [← hB]; exact bumpTo_succ h _
        refine AW.loop (S := fun k : Nat => ⟨[(5, .msl 0 1 0 ws.length), (9, .d (.int .i64 (B k).2)), (46, .d (.lst (ws.map encN))), (47, .d (.int .i64 ws.length)), (48, .d (.int .i64 k))], [.arr 1 ((B k).1.map encN)], 69, .p 0⟩)
          (Pre := fun k => k ≤ ws.length) (μ := fun k => ws.length - k) 0 (Nat.zero_le _) ?_ ?_
        · (refine xwk (π := [0]) (by decide) rfl ?_ ?_; (first | simp -implicitDefEqProofs only [go_sem, hB0]); repeat' (first | exact renE_n | ((with_reducible apply renE_c); exact rfl; focus (first | (simp -implicitDefEqProofs only [go_sem, hB0]; done)))))
        · intro k hk
          have hm := hBm k
          by_cases hlt : k < ws.length
          · have hrow := at_map (f := encN) hlt
            have hx := hw.w _ (List.getElem_mem hlt)
            have hf := hfb.at (show k < (floors n ws).length by omega)
            have hz : ((B k).1.map encN)[k]? = some [.int .i64 ((floors n ws)[k]'(by omega))] := by
              rw [List.getElem?_map, ← hB, bumpTo_at k k (Nat.le_refl _), List.getElem?_eq_getElem (show k < (floors n ws).length by omega)]; rfl
            repeat' (first | ((with_reducible apply xsim); (first | ((with_reducible apply xo); exact rfl) | with_reducible apply xend | ((with_reducible apply xguardS); exact rfl; exact rfl) | ((with_reducible apply xidxL); exact rfl; exact rfl; exact rfl; (first | exact hrow | exact hz); omega; first | exact rfl | simp only [hsz]) | ((with_reducible apply xidxM); exact rfl; exact rfl; exact rfl; omega; omega; exact rfl) | ((with_reducible apply xldA); exact rfl; exact rfl; exact rfl; (first | exact hrow | exact hz); exact rfl) | ((with_reducible apply xstA); exact rfl; exact rfl; exact rfl; exact rfl; (first | exact hrow | exact hz); exact rfl; exact rfl; exact rfl; exact rfl; (try simp only [List.set_cons_zero, List.set_cons_succ, List.length_map])))) | ((with_reducible apply xaw); (first | ((with_reducible apply xstepS); refine AW.step tok rfl ?_) | ((with_reducible apply xstep); refine AW.region tok rfl ?_) | with_reducible (first | refine AW.seq ?_ | refine AW.block ?_ | refine AW.skip ?_) | ((with_reducible apply xcond); exact rfl))) | with_reducible (first | refine xthen ?_ | refine xblock ?_) | (with_reducible intro hc; (try simp only [hcL, reduceCtorEq, List.length_map] at hc); (try (exfalso; omega))) | with_reducible (first | exact trivial | refine And.intro ?_ ?_ | exact rfl) | (refine inR_i64.mpr ?_; first | omega | (simp only [List.length_map, List.length_map]; omega)))
            all_goals have hb := hBs k hlt
            · rw [if_pos (by omega)] at hb
              refine round_end (k+1) hlt (by omega) (by (refine xwk (π := [0]) (by decide) rfl ?_ ?_; (first | simp -implicitDefEqProofs only [go_sem, hb, List.map_set, encN]); repeat' (first | exact renE_n | ((with_reducible apply renE_c); exact rfl; focus (first | (simp -implicitDefEqProofs only [go_sem, hb, List.map_set, encN]; done))))))
            all_goals (rw [if_neg (by omega)] at hb; refine round_end (k+1) hlt (by omega) (by (refine xwk (π := [0]) (by decide) rfl ?_ ?_; (first | simp -implicitDefEqProofs only [go_sem, hb]); repeat' (first | exact renE_n | ((with_reducible apply renE_c); exact rfl; focus (first | (simp -implicitDefEqProofs only [go_sem, hb]; done)))))))
          · have hk' : k = ws.length := by omega
            subst hk'
            repeat' (first | ((with_reducible apply xsim); (first | ((with_reducible apply xo); exact rfl) | with_reducible apply xend)) | ((with_reducible apply xaw); (first | ((with_reducible apply xstepS); refine AW.step tok rfl ?_) | with_reducible (first | refine AW.seq ?_ | refine AW.ret ?_ | refine AW.exit ?_) | ((with_reducible apply xcond); exact rfl))) | with_reducible (first | refine xthen ?_ | refine xthen_e ?_ | refine xblock_e ?_ | refine xround_e ?_) | (with_reducible intro hc; (try simp only [hcL, reduceCtorEq, List.length_map] at hc); (try (exfalso; omega))) | with_reducible (first | exact trivial | refine And.intro ?_ ?_ | exact rfl))
            (refine xfinOwn [0] (by first | exact .inl rfl | exact .inr rfl) rfl (by repeat' (first | exact trivial | exact rfl | refine And.intro ?_ ?_)) (by decide) rfl ?_ ?_ <;> simp -implicitDefEqProofs only [go_sem, he, hBl])
end Go.Proofs.YtpfhnhhkfobjnaaGreat

namespace Go.Proofs.YtpfhnhhkfobjnaaGreat
open Go.Fw

def nzI (ws : List Int) : Int := sumI (ws.map fun w => if w = 0 then 0 else 1)

theorem sumI_nonneg {xs : List Int} (h : ∀ x ∈ xs, 0 ≤ x) : 0 ≤ sumI xs := by
  induction xs with
  | nil => simp [sumI]
  | cons x xs ih =>
    have := h x (by simp)
    have := ih fun y hy => h y (by simp [hy])
    simp only [sumI]; omega
theorem sumI_mem {xs : List Int} (h : ∀ x ∈ xs, 0 ≤ x) {y : Int} (hy : y ∈ xs) : y ≤ sumI xs := by
  induction xs with
  | nil => cases hy
  | cons x xs ih =>
    have := h x (by simp)
    have := sumI_nonneg (xs := xs) fun y hy => h y (by simp [hy])
    simp only [sumI]
    rcases List.mem_cons.1 hy with rfl | hy
    · omega
    · have := ih (fun y hy => h y (by simp [hy])) hy; omega
theorem sumI_set {xs : List Int} {k : Nat} (hk : k < xs.length) (v : Int) : sumI (xs.set k v) = sumI xs - xs[k] + v := by
  induction xs generalizing k with
  | nil => simp at hk
  | cons x xs ih =>
    cases k with
    | zero => simp only [List.set_cons_zero, sumI, List.getElem_cons_zero]; omega
    | succ k =>
      simp only [List.set_cons_succ, sumI, List.getElem_cons_succ]
      rw [ih (by simpa using hk)]; omega
theorem sumI_zeros {α : Type} (xs : List α) : sumI (xs.map fun _ => (0 : Int)) = 0 := by
  induction xs with
  | nil => rfl
  | cons x xs ih => simp only [List.map_cons, sumI, ih]; omega
theorem nz_nonneg (ws : List Int) : 0 ≤ nzI ws := by
  refine sumI_nonneg fun x hx => ?_
  obtain ⟨w, _, rfl⟩ := List.mem_map.1 hx
  split <;> omega
theorem nz_take {ws : List Int} {k : Nat} (h : k < ws.length) : nzI (ws.take (k + 1)) = nzI (ws.take k) + if ws[k] = 0 then 0 else 1 := by
  rw [nzI, nzI, List.take_succ_eq_append_getElem h, List.map_append, sumI_app]; simp [sumI]

theorem floors_rest {n S : Int} (hn : 0 ≤ n) (hS : 0 < S) : ∀ ws : List Int, (∀ x ∈ ws, 0 ≤ x) →
    S * sumI (ws.map fun w => (n * w).tdiv S) ≤ n * sumI ws ∧ n * sumI ws ≤ S * sumI (ws.map fun w => (n * w).tdiv S) + nzI ws * (S - 1) := by
  intro ws
  induction ws with
  | nil => intro _; simp [sumI, nzI]
  | cons w ws ih =>
    intro h
    have hw := h w (by simp)
    obtain ⟨i1, i2⟩ := ih fun y hy => h y (by simp [hy])
    have hm : 0 ≤ n * w := Int.mul_nonneg hn hw
    have hq : (n * w).tdiv S = n * w / S := Int.tdiv_eq_ediv_of_nonneg hm
    have q1 := Int.mul_ediv_add_emod (n * w) S
    have q2 := Int.emod_nonneg (n * w) (show S ≠ 0 by omega)
    have q3 := Int.emod_lt_of_pos (n * w) hS
    have e : nzI (w :: ws) = (if w = 0 then 0 else 1) + nzI ws := rfl
    simp only [List.map_cons, sumI, e, Int.mul_add, Int.add_mul, hq]
    by_cases h0 : w = 0
    · subst h0
      simp only [Int.mul_zero, Int.zero_ediv, if_true, Int.zero_mul]
      omega
    · rw [if_neg h0]
      constructor <;> omega

theorem left_bd {n : Int} {ws : List Int} (h : WOk ws) (hn : 0 ≤ n) (h0 : sumI ws ≠ 0) : 0 ≤ n - sumI (floors n ws) ∧ n - sumI (floors n ws) ≤ nzI ws := by
  have hS := h.sum
  obtain ⟨h1, h2⟩ := floors_rest (n := n) (S := sumI ws) hn (by omega) ws fun x hx => (h.w x hx).1
  rw [show (ws.map fun w => (n * w).tdiv (sumI ws)) = floors n ws from rfl] at h1 h2
  have hz := nz_nonneg ws
  generalize sumI (floors n ws) = F at *
  generalize sumI ws = S at *
  generalize nzI ws = Z at *
  constructor
  · by_cases hc : F ≤ n
    · omega
    · have := Int.mul_le_mul_of_nonneg_left (show n + 1 ≤ F by omega) (show 0 ≤ S by omega)
      rw [Int.mul_add, Int.mul_comm S n] at this
      omega
  · by_cases hc : n - F ≤ Z
    · omega
    · have := Int.mul_le_mul_of_nonneg_left (show F + Z + 1 ≤ n by omega) (show 0 ≤ S by omega)
      rw [Int.mul_add, Int.mul_add, Int.mul_comm S n] at this
      rw [Int.mul_sub, Int.mul_comm Z S] at h2
      omega

theorem bump_left {ws bs : List Int} {m : Int} (hl : bs.length = ws.length) (hm : 0 ≤ m) : ∀ k, k ≤ ws.length → (bumpTo ws bs m k).2 = max 0 (m - nzI (ws.take k)) := by
  intro k
  induction k with
  | zero => intro _; simp only [bumpTo, List.take_zero]; simp only [nzI, List.map_nil, sumI]; omega
  | succ k ih =>
    intro hk
    have e := ih (by omega)
    have hz := nz_take (ws := ws) (k := k) (by omega)
    rw [bumpTo_succ (by omega) (by omega), hz]
    have hw := nz_nonneg (ws.take k)
    by_cases h0 : ws[k] = 0
    · rw [if_neg (fun h => h.1 h0), e, if_pos h0]; omega
    · rw [if_neg h0]
      by_cases h1 : 0 < (bumpTo ws bs m k).2
      · rw [if_pos ⟨h0, h1⟩]; dsimp only; omega
      · rw [if_neg (fun h => h1 h.2)]; omega
theorem bump_sum {ws bs : List Int} {m : Int} (hl : bs.length = ws.length) : ∀ k, k ≤ ws.length → sumI (bumpTo ws bs m k).1 = sumI bs + m - (bumpTo ws bs m k).2 := by
  intro k
  induction k with
  | zero => intro _; simp only [bumpTo]; omega
  | succ k ih =>
    intro hk
    have e := ih (by omega)
    have ha := bumpTo_at (ws := ws) (bs := bs) (m := m) k k (Nat.le_refl _)
    have hbl := bumpTo_len (ws := ws) (bs := bs) (m := m) k
    rw [List.getElem?_eq_getElem (by omega), List.getElem?_eq_getElem (by omega)] at ha
    injection ha with ha
    rw [bumpTo_succ (by omega) (by omega)]
    split
    · dsimp only; rw [sumI_set (by omega), ha]; omega
    · exact e
theorem bump_nonneg {ws bs : List Int} {m : Int} (hb : ∀ x ∈ bs, 0 ≤ x) : ∀ k, ∀ x ∈ (bumpTo ws bs m k).1, 0 ≤ x := by
  intro k
  induction k with
  | zero => exact hb
  | succ k ih =>
    intro x hx
    simp only [bumpTo] at hx
    split at hx
    · rcases List.mem_or_eq_of_mem_set hx with hx | rfl
      · exact ih x hx
      · rename_i hc
        cases hg : (bumpTo ws bs m k).1[k]? with
        | none => simp
        | some y => have := ih y (List.mem_of_getElem? hg); simp only [Option.getD_some]; omega
    · exact ih x hx
theorem bump_zero {ws bs : List Int} {m : Int} {i : Nat} (h : ws[i]? = some 0) : ∀ k, (bumpTo ws bs m k).1[i]? = bs[i]? := by
  intro k
  induction k with
  | zero => rfl
  | succ k ih =>
    simp only [bumpTo]
    split
    · rename_i hc
      have : k ≠ i := by rintro rfl; rw [h] at hc; exact hc.1 rfl
      rw [List.getElem?_set_ne this]; exact ih
    · exact ih

theorem spread_len {n : Int} {ws : List Int} : (spread n ws).length = ws.length := by
  unfold spread; split
  · simp
  · rw [bumpTo_len, floors_len]
theorem spread_sum {n : Int} {ws : List Int} (h : WOk ws) (hn : 0 ≤ n) : sumI (spread n ws) = n := by
  have := h.lo
  unfold spread; split
  · rw [sumI_set (by simp; omega), sumI_zeros]
    simp
  · rename_i h0
    obtain ⟨b1, b2⟩ := left_bd h hn h0
    have e := bump_left (ws := ws) (bs := floors n ws) floors_len b1 ws.length (Nat.le_refl _)
    rw [List.take_length] at e
    rw [bump_sum floors_len ws.length (Nat.le_refl _), e]; omega
theorem spread_nonneg {n : Int} {ws : List Int} (h : WOk ws) (hn : 0 ≤ n) : ∀ x ∈ spread n ws, 0 ≤ x := by
  unfold spread; split
  · intro x hx
    rcases List.mem_or_eq_of_mem_set hx with hx | rfl
    · obtain ⟨_, _, rfl⟩ := List.mem_map.1 hx; omega
    · exact hn
  · refine bump_nonneg (fun x hx => ?_) _
    obtain ⟨w, hw, rfl⟩ := List.mem_map.1 hx
    exact Int.tdiv_nonneg (Int.mul_nonneg hn (h.w w hw).1) h.sum
theorem spread_bd {n : Int} {ws : List Int} (h : WOk ws) (hn : 0 ≤ n) : ∀ x ∈ spread n ws, 0 ≤ x ∧ x ≤ n := by
  intro x hx
  have h1 := spread_nonneg h hn
  have h2 := sumI_mem h1 hx
  rw [spread_sum h hn] at h2
  exact ⟨h1 x hx, h2⟩
theorem spread_zero {n : Int} {ws : List Int} (h0 : sumI ws ≠ 0) {i : Nat} (h : ws[i]? = some 0) : (spread n ws)[i]? = some 0 := by
  unfold spread
  rw [if_neg h0, bump_zero h, floors, List.getElem?_map, h]
  simp
end Go.Proofs.YtpfhnhhkfobjnaaGreat

namespace Go.Proofs.YtpfhnhhkfobjnaaGreat
open Go.Fw

def slc {α : Type} (xs : List α) (a m : Nat) : List α := (xs.drop a).take m
theorem slc_len {α : Type} {xs : List α} {a m : Nat} (h : a + m ≤ xs.length) : (slc xs a m).length = m := by simp [slc]; omega
theorem slc_at {α : Type} {xs : List α} {a m i : Nat} (h : i < (slc xs a m).length) : (slc xs a m)[i] = xs[a + i]'(by simp [slc] at h; omega) := by
  simp [slc]
theorem slc_mem {α : Type} {xs : List α} {a m : Nat} {x : α} (h : x ∈ slc xs a m) : x ∈ xs := List.mem_of_mem_drop (List.mem_of_mem_take h)
theorem slc_map {α β : Type} {f : α → β} {xs : List α} {a m : Nat} : slc (xs.map f) a m = (slc xs a m).map f := by simp [slc, List.map_take, List.map_drop]

/-- The first k parts are put to those from a on. -/
def putN (ps : List Int) (a k : Nat) (out : List Int) : List Int := out.mapIdx fun i x => if a ≤ i ∧ i < a + k then x + (ps[i - a]?).getD 0 else x
theorem putN_len {ps out : List Int} {a k : Nat} : (putN ps a k out).length = out.length := by simp [putN]
theorem putN_zero {ps out : List Int} {a : Nat} : putN ps a 0 out = out := by
  refine List.ext_getElem (by simp [putN]) fun i h1 h2 => ?_
  simp only [putN, List.getElem_mapIdx]
  rw [if_neg (by omega)]
theorem putN_at {ps out : List Int} {a k : Nat} (h : a + k < out.length) : (putN ps a k out)[a + k]? = some out[a + k] := by
  rw [List.getElem?_eq_getElem (by rw [putN_len]; exact h)]
  simp only [putN, List.getElem_mapIdx]
  rw [if_neg (by omega)]
theorem putN_set {ps out : List Int} {a k : Nat} (h : a + k < out.length) (hp : k < ps.length) : (putN ps a k out).set (a + k) (out[a + k] + ps[k]) = putN ps a (k + 1) out := by
  refine List.ext_getElem (by simp [putN]) fun i h1 h2 => ?_
  rw [List.getElem_set]
  simp only [putN, List.getElem_mapIdx]
  split
  · rename_i e; subst e
    rw [if_pos (by omega), show a + k - a = k by omega, List.getElem?_eq_getElem hp]; rfl
  · by_cases hc : a ≤ i ∧ i < a + k
    · rw [if_pos hc, if_pos (by omega)]
    · rw [if_neg hc, if_neg (by omega)]

theorem sumI_zip : ∀ {xs ys : List Int}, xs.length = ys.length → sumI (List.zipWith (· + ·) xs ys) = sumI xs + sumI ys
  | [], [], _ => rfl
  | x :: xs, y :: ys, h => by
    have := sumI_zip (xs := xs) (ys := ys) (by simpa using h)
    simp only [List.zipWith_cons_cons, sumI, this]; omega
theorem putN_slc {ps out : List Int} {a m : Nat} (h : a + m ≤ out.length) (hp : ps.length = m) : slc (putN ps a m out) a m = List.zipWith (· + ·) (slc out a m) ps := by
  refine List.ext_getElem (by rw [slc_len (by rw [putN_len]; exact h), List.length_zipWith, slc_len h]; omega) fun i h1 h2 => ?_
  have hi : i < m := by rw [slc_len (by rw [putN_len]; exact h)] at h1; exact h1
  rw [slc_at h1, List.getElem_zipWith, slc_at]
  simp only [putN, List.getElem_mapIdx]
  rw [if_pos (by omega), show a + i - a = i by omega, List.getElem?_eq_getElem (by omega)]; rfl
theorem putN_ge {ps out : List Int} {a k i : Nat} (hp : ∀ x ∈ ps, 0 ≤ x) (h : i < out.length) : out[i] ≤ (putN ps a k out)[i]'(by rw [putN_len]; exact h) := by
  simp only [putN, List.getElem_mapIdx]
  split
  · cases hg : ps[i - a]? with
    | none => simp
    | some y => have := hp y (List.mem_of_getElem? hg); simp only [Option.getD_some]; omega
  · omega

def weights (ls : List Line) : List Int := ls.map Line.weight
def mins (ls : List Line) : List Int := ls.map Line.min
def missing (out : List Int) (s : Span) : Int := s.need - sumI (slc out s.at.toNat s.many.toNat)
def reqStep (ls : List Line) (many : Int) (out : List Int) (s : Span) : List Int :=
  if s.many = many ∧ 0 < missing out s then putN (spread (missing out s) (slc (weights ls) s.at.toNat s.many.toNat)) s.at.toNat s.many.toNat out else out
def reqRound (ls : List Line) (ss : List Span) (many : Int) (out : List Int) (k : Nat) : List Int := (ss.take k).foldl (reqStep ls many) out
def reqs (ls : List Line) (ss : List Span) : Nat → List Int
  | 0 => mins ls
  | m + 1 => reqRound ls ss (m + 1) (reqs ls ss m) ss.length
def requests (ls : List Line) (ss : List Span) : List Int := reqs ls ss ls.length

theorem reqRound_zero {ls ss m out} : reqRound ls ss m out 0 = out := rfl
theorem reqRound_succ {ls : List Line} {ss : List Span} {m : Int} {out : List Int} {k : Nat} (h : k < ss.length) : reqRound ls ss m out (k + 1) = reqStep ls m (reqRound ls ss m out k) ss[k] := by
  unfold reqRound; rw [List.take_succ_eq_append_getElem h, List.foldl_append]; rfl

/-- Sizes of some lines. -/
structure ROk (n : Nat) (out : List Int) : Prop where
  len : out.length = n
  bd : ∀ x ∈ out, 0 ≤ x ∧ x ≤ 4096
theorem ROk.nums {n : Nat} {out : List Int} (h : ROk n out) (hn : n ≤ 5) : NumsOk out := ⟨by rw [h.len]; omega, fun x hx => by have := h.bd x hx; omega⟩
theorem ROk.slc {n : Nat} {out : List Int} (h : ROk n out) (hn : n ≤ 5) {a m : Nat} : NumsOk (slc out a m) := ⟨by
  have := h.len; simp [Go.Proofs.YtpfhnhhkfobjnaaGreat.slc]; omega, fun x hx => by have := h.bd x (slc_mem hx); omega⟩
theorem validLine_iff {l : Line} (h : validLine l = true) : 0 ≤ l.weight ∧ l.weight ≤ 5 ∧ 0 ≤ l.min ∧ l.min ≤ 30 := of_decide_eq_true h
structure LOk (ls : List Line) : Prop where
  lo : 1 ≤ ls.length
  hi : ls.length ≤ 5
  ok : ∀ l ∈ ls, 0 ≤ l.weight ∧ l.weight ≤ 5 ∧ 0 ≤ l.min ∧ l.min ≤ 30
theorem linesOk_iff {ls : List Line} (h : linesOk ls = true) : LOk ls := by
  simp only [linesOk, Bool.and_eq_true, decide_eq_true_eq, List.all_eq_true] at h
  exact ⟨h.1.1, h.1.2, fun l hl => validLine_iff (h.2 l hl)⟩
structure SOk (ss : List Span) (n : Int) : Prop where
  hi : ss.length ≤ 10
  ok : ∀ s ∈ ss, 0 ≤ s.at ∧ s.at ≤ n - 1 ∧ 1 ≤ s.many ∧ s.many ≤ n - s.at ∧ 0 ≤ s.need ∧ s.need ≤ 4096
theorem LOk.w {ls : List Line} (h : LOk ls) : ∀ x ∈ weights ls, 0 ≤ x ∧ x ≤ 5 := fun x hx => by
  obtain ⟨l, hl, rfl⟩ := List.mem_map.1 hx
  have := h.ok l hl; omega
theorem LOk.slc {ls : List Line} (h : LOk ls) {a m : Nat} (h1 : 1 ≤ m) (h2 : a + m ≤ ls.length) : WOk (Go.Proofs.YtpfhnhhkfobjnaaGreat.slc (weights ls) a m) := by
  have hl : (Go.Proofs.YtpfhnhhkfobjnaaGreat.slc (weights ls) a m).length = m := slc_len (by simp [weights]; omega)
  have := h.hi
  exact ⟨by omega, by omega, fun x hx => h.w x (slc_mem hx)⟩
theorem LOk.all {ls : List Line} (h : LOk ls) : WOk (weights ls) := ⟨by simp [weights]; exact h.lo, by simp [weights]; exact h.hi, h.w⟩
theorem LOk.mins {ls : List Line} (h : LOk ls) : ROk ls.length (mins ls) := ⟨by simp [Go.Proofs.YtpfhnhhkfobjnaaGreat.mins], fun x hx => by
  obtain ⟨l, hl, rfl⟩ := List.mem_map.1 hx
  have := h.ok l hl; omega⟩

theorem step_rok {ls : List Line} (h : LOk ls) {m : Int} {out : List Int} (ho : ROk ls.length out) {s : Span} (hs : 0 ≤ s.at ∧ s.at ≤ (ls.length : Int) - 1 ∧ 1 ≤ s.many ∧ s.many ≤ ls.length - s.at ∧ 0 ≤ s.need ∧ s.need ≤ 4096) :
    ROk ls.length (reqStep ls m out s) := by
  unfold reqStep
  split
  · rename_i hc
    have hw := h.slc (a := s.at.toNat) (m := s.many.toNat) (by omega) (by omega)
    have hsp := spread_bd hw (n := missing out s) (by omega)
    have hsl := ho.slc h.hi (a := s.at.toNat) (m := s.many.toNat)
    have hle : ∀ x ∈ slc out s.at.toNat s.many.toNat, 0 ≤ x := fun x hx => (ho.bd x (slc_mem hx)).1
    have hpl : (spread (missing out s) (slc (weights ls) s.at.toNat s.many.toNat)).length = s.many.toNat := by rw [spread_len]; exact slc_len (by simp [weights]; omega)
    have hmi : missing out s = s.need - sumI (slc out s.at.toNat s.many.toNat) := rfl
    generalize spread (missing out s) (slc (weights ls) s.at.toNat s.many.toNat) = ps at *
    refine ⟨by rw [putN_len]; exact ho.len, fun x hx => ?_⟩
    obtain ⟨i, hi, rfl⟩ := List.mem_iff_getElem.1 hx
    rw [putN_len] at hi
    have hb := ho.bd _ (List.getElem_mem hi)
    simp only [putN, List.getElem_mapIdx]
    split
    · have hj : i - s.at.toNat < ps.length := by omega
      rw [List.getElem?_eq_getElem hj]
      have hp := hsp _ (List.getElem_mem hj)
      have hjl : i - s.at.toNat < (slc out s.at.toNat s.many.toNat).length := by rw [slc_len (by rw [ho.len]; omega)]; omega
      have := sumI_mem hle (List.getElem_mem hjl)
      rw [slc_at hjl] at this
      simp only [show s.at.toNat + (i - s.at.toNat) = i by omega] at this
      simp only [Option.getD_some]
      omega
    · exact hb
  · exact ho
theorem round_rok {ls : List Line} (h : LOk ls) {ss : List Span} (hs : SOk ss ls.length) {m : Int} {out : List Int} (ho : ROk ls.length out) : ∀ k, k ≤ ss.length → ROk ls.length (reqRound ls ss m out k) := by
  intro k
  induction k with
  | zero => intro _; exact ho
  | succ k ih =>
    intro hk
    rw [reqRound_succ (by omega)]
    exact step_rok h (ih (by omega)) (hs.ok _ (List.getElem_mem _))
theorem reqs_rok {ls : List Line} (h : LOk ls) {ss : List Span} (hs : SOk ss ls.length) : ∀ k, ROk ls.length (reqs ls ss k) := by
  intro k
  induction k with
  | zero => exact h.mins
  | succ k ih => exact round_rok h hs ih _ (Nat.le_refl _)
theorem requests_rok {ls : List Line} (h : LOk ls) {ss : List Span} (hs : SOk ss ls.length) : ROk ls.length (requests ls ss) := reqs_rok h hs _
end Go.Proofs.YtpfhnhhkfobjnaaGreat

namespace Go.Proofs.YtpfhnhhkfobjnaaGreat
open Go.Fw

/-- The weights of those lines that are greater than their least size. -/
def nowW (ls : List Line) (out : List Int) : List Int := List.zipWith (fun l x => if l.min < x then l.weight else 0) ls out
def tks (ls : List Line) (out : List Int) (n : Int) : List Int := List.zipWith (fun p (lx : Line × Int) => min p (lx.2 - lx.1.min)) (spread n (nowW ls out)) (List.zip ls out)
def less (ls : List Line) (out : List Int) (n : Int) : List Int := List.zipWith (· - ·) out (tks ls out n)
def shrinkTo (ls : List Line) (out : List Int) (n : Int) : Nat → List Int × Int
  | 0 => (out, n)
  | r + 1 =>
    let s := shrinkTo ls out n r
    if 0 < s.2 ∧ sumI (nowW ls s.1) ≠ 0 then (less ls s.1 s.2, s.2 - sumI (tks ls s.1 s.2)) else s
def sizes (ls : List Line) (out : List Int) (room : Int) : List Int :=
  if room - sumI out < 0 then (shrinkTo ls out (sumI out - room) (sumI out - room).toNat).1
  else if sumI (weights ls) = 0 then out else putN (spread (room - sumI out) (weights ls)) 0 out.length out

structure SInv (ls : List Line) (out : List Int) : Prop extends ROk ls.length out where
  ge : ∀ i (h1 : i < ls.length) (h2 : i < out.length), ls[i].min ≤ out[i]

theorem nowW_len {ls : List Line} {out : List Int} (h : out.length = ls.length) : (nowW ls out).length = ls.length := by simp [nowW, h]
theorem nowW_at {ls : List Line} {out : List Int} {i : Nat} (h1 : i < ls.length) (h2 : i < out.length) : (nowW ls out)[i]'(by simp [nowW]; omega) = if ls[i].min < out[i] then ls[i].weight else 0 := by simp [nowW]
theorem nowW_ok {ls : List Line} {out : List Int} (h : LOk ls) (ho : out.length = ls.length) : WOk (nowW ls out) := by
  refine ⟨by rw [nowW_len ho]; exact h.lo, by rw [nowW_len ho]; exact h.hi, fun x hx => ?_⟩
  obtain ⟨i, hi, rfl⟩ := List.mem_iff_getElem.1 hx
  rw [nowW_len ho] at hi
  rw [nowW_at hi (by omega)]
  have := h.ok _ (List.getElem_mem hi)
  split <;> omega
theorem tks_len {ls : List Line} {out : List Int} {n : Int} (h : out.length = ls.length) : (tks ls out n).length = ls.length := by simp [tks, spread_len, nowW_len h, h]
theorem tks_at {ls : List Line} {out : List Int} {n : Int} (h : out.length = ls.length) {i : Nat} (hi : i < ls.length) :
    (tks ls out n)[i]'(by rw [tks_len h]; exact hi) = min ((spread n (nowW ls out))[i]'(by rw [spread_len, nowW_len h]; exact hi)) (out[i]'(by omega) - ls[i].min) := by simp [tks]
theorem less_len {ls : List Line} {out : List Int} {n : Int} (h : out.length = ls.length) : (less ls out n).length = ls.length := by simp [less, tks_len h, h]
theorem less_at {ls : List Line} {out : List Int} {n : Int} (h : out.length = ls.length) {i : Nat} (hi : i < ls.length) :
    (less ls out n)[i]'(by rw [less_len h]; exact hi) = out[i]'(by omega) - (tks ls out n)[i]'(by rw [tks_len h]; exact hi) := by simp [less]
theorem sumI_sub : ∀ {xs ys : List Int}, xs.length = ys.length → sumI (List.zipWith (· - ·) xs ys) = sumI xs - sumI ys
  | [], [], _ => rfl
  | x :: xs, y :: ys, h => by
    have := sumI_sub (xs := xs) (ys := ys) (by simpa using h)
    simp only [List.zipWith_cons_cons, sumI, this]; omega
theorem sumI_le : ∀ {xs ys : List Int}, (h : xs.length = ys.length) → (∀ i (h1 : i < xs.length), xs[i] ≤ ys[i]) → sumI xs ≤ sumI ys
  | [], [], _, _ => Int.le_refl _
  | x :: xs, y :: ys, h, hle => by
    have := sumI_le (xs := xs) (ys := ys) (by simpa using h) (fun i hi => hle (i + 1) (by simpa using hi))
    have h0 := hle 0 (by simp)
    simp only [List.getElem_cons_zero] at h0
    simp only [sumI]; omega

theorem tks_bd {ls : List Line} {out : List Int} (h : LOk ls) (ho : SInv ls out) {n : Int} (hn : 0 ≤ n) {i : Nat} (hi : i < ls.length) :
    0 ≤ (tks ls out n)[i]'(by rw [tks_len ho.len]; exact hi) ∧ (tks ls out n)[i]'(by rw [tks_len ho.len]; exact hi) ≤ out[i]'(by rw [ho.len]; exact hi) - ls[i].min := by
  have hw := nowW_ok h ho.len
  have hsp := spread_bd hw hn _ (List.getElem_mem (show i < (spread n (nowW ls out)).length by rw [spread_len, nowW_len ho.len]; exact hi))
  have hge := ho.ge i hi (by rw [ho.len]; exact hi)
  rw [tks_at ho.len hi]; omega
theorem tks_nonneg {ls : List Line} {out : List Int} (h : LOk ls) (ho : SInv ls out) {n : Int} (hn : 0 ≤ n) : ∀ x ∈ tks ls out n, 0 ≤ x := fun x hx => by
  obtain ⟨i, hi, rfl⟩ := List.mem_iff_getElem.1 hx
  rw [tks_len ho.len] at hi
  exact (tks_bd h ho hn hi).1
theorem tks_sum {ls : List Line} {out : List Int} (h : LOk ls) (ho : SInv ls out) {n : Int} (hn : 0 ≤ n) : sumI (tks ls out n) ≤ n := by
  have hw := nowW_ok h ho.len
  have hs := spread_sum hw hn
  have := sumI_le (xs := tks ls out n) (ys := spread n (nowW ls out)) (by rw [tks_len ho.len, spread_len, nowW_len ho.len]) (fun i hi => by
    rw [tks_len ho.len] at hi
    rw [tks_at ho.len hi]; omega)
  omega
theorem sumI_pos : ∀ {xs : List Int}, 0 < sumI xs → ∃ i, ∃ h : i < xs.length, 0 < xs[i]
  | [], h => by simp [sumI] at h
  | x :: xs, h => by
    by_cases hx : 0 < x
    · exact ⟨0, by simp, hx⟩
    · obtain ⟨i, hi, hp⟩ := sumI_pos (xs := xs) (by simp only [sumI] at h; omega)
      exact ⟨i + 1, by simpa using hi, hp⟩
theorem tks_pos {ls : List Line} {out : List Int} (h : LOk ls) (ho : SInv ls out) {n : Int} (hn : 0 < n) (h0 : sumI (nowW ls out) ≠ 0) : 0 < sumI (tks ls out n) := by
  have hw := nowW_ok h ho.len
  have hs := spread_sum hw (n := n) (by omega)
  obtain ⟨i, hi, hp⟩ := sumI_pos (xs := spread n (nowW ls out)) (by omega)
  have hi' : i < ls.length := by rw [spread_len, nowW_len ho.len] at hi; exact hi
  have hio : i < out.length := by rw [ho.len]; exact hi'
  have hm : ls[i].min < out[i] := by
    refine Decidable.byContradiction fun hc => ?_
    have e := nowW_at hi' hio
    rw [if_neg hc] at e
    have := spread_zero (n := n) h0 (i := i) (by rw [List.getElem?_eq_getElem (by rw [nowW_len ho.len]; exact hi'), e])
    rw [List.getElem?_eq_getElem hi] at this
    injection this with this
    omega
  have hmem := sumI_mem (tks_nonneg h ho (n := n) (by omega)) (List.getElem_mem (show i < (tks ls out n).length by rw [tks_len ho.len]; exact hi'))
  rw [tks_at ho.len hi'] at hmem
  omega
theorem less_inv {ls : List Line} {out : List Int} (h : LOk ls) (ho : SInv ls out) {n : Int} (hn : 0 ≤ n) : SInv ls (less ls out n) := by
  refine ⟨⟨less_len ho.len, fun x hx => ?_⟩, fun i h1 h2 => ?_⟩
  · obtain ⟨i, hi, rfl⟩ := List.mem_iff_getElem.1 hx
    rw [less_len ho.len] at hi
    have hio : i < out.length := by rw [ho.len]; exact hi
    rw [less_at ho.len hi]
    have := tks_bd h ho hn hi
    have hb := ho.bd _ (List.getElem_mem hio)
    have := h.ok _ (List.getElem_mem hi)
    omega
  · rw [less_at ho.len h1]
    have := tks_bd h ho hn h1
    omega

theorem shrink_inv {ls : List Line} {out : List Int} (h : LOk ls) (ho : SInv ls out) {n : Int} (hn : 0 ≤ n) : ∀ r,
    SInv ls (shrinkTo ls out n r).1 ∧ 0 ≤ (shrinkTo ls out n r).2 ∧ (shrinkTo ls out n r).2 ≤ n ∧ sumI (shrinkTo ls out n r).1 - (shrinkTo ls out n r).2 = sumI out - n := by
  intro r
  induction r with
  | zero => exact ⟨ho, hn, Int.le_refl _, rfl⟩
  | succ r ih =>
    obtain ⟨i1, i2, i3, i4⟩ := ih
    simp only [shrinkTo]
    split
    · rename_i hc
      have t1 := tks_sum h i1 i2
      have t2 := tks_pos h i1 hc.1 hc.2
      refine ⟨less_inv h i1 i2, ?_, ?_, ?_⟩
      · dsimp only; omega
      · dsimp only; omega
      · dsimp only
        rw [less, sumI_sub (by rw [tks_len i1.len, i1.len])]; omega
    · exact ⟨i1, i2, i3, i4⟩
theorem shrink_done {ls : List Line} {out : List Int} {n : Int} {r : Nat} (hc : ¬ (0 < (shrinkTo ls out n r).2 ∧ sumI (nowW ls (shrinkTo ls out n r).1) ≠ 0)) : ∀ j, r ≤ j → shrinkTo ls out n j = shrinkTo ls out n r := by
  intro j hj
  induction j with
  | zero => obtain rfl : r = 0 := by omega
            rfl
  | succ j ih =>
    by_cases e : r = j + 1
    · rw [e]
    · have := ih (by omega)
      simp only [shrinkTo]
      rw [this, if_neg hc]
theorem shrink_run {ls : List Line} {out : List Int} (h : LOk ls) (ho : SInv ls out) {n : Int} (hn : 0 ≤ n) {r : Nat} (hr : (shrinkTo ls out n r).2 + r ≤ n) (hc : 0 < (shrinkTo ls out n r).2 ∧ sumI (nowW ls (shrinkTo ls out n r).1) ≠ 0) :
    (shrinkTo ls out n (r + 1)).2 + (r + 1 : Nat) ≤ n ∧ (shrinkTo ls out n (r + 1)).2 < (shrinkTo ls out n r).2 := by
  obtain ⟨i1, i2, i3, i4⟩ := shrink_inv h ho hn r
  have t2 := tks_pos h i1 hc.1 hc.2
  have e : (shrinkTo ls out n (r + 1)) = (less ls (shrinkTo ls out n r).1 (shrinkTo ls out n r).2, (shrinkTo ls out n r).2 - sumI (tks ls (shrinkTo ls out n r).1 (shrinkTo ls out n r).2)) := by
    rw [shrinkTo]; simp only [if_pos hc]
  rw [e]; dsimp only; omega
theorem shrink_end {ls : List Line} {out : List Int} (h : LOk ls) (ho : SInv ls out) {n : Int} (hn : 0 ≤ n) : ∀ r : Nat, ((shrinkTo ls out n r).2 + r ≤ n ∨ ¬ (0 < (shrinkTo ls out n r).2 ∧ sumI (nowW ls (shrinkTo ls out n r).1) ≠ 0)) := by
  intro r
  induction r with
  | zero => left; simp only [shrinkTo]; omega
  | succ r ih =>
    by_cases hc : 0 < (shrinkTo ls out n r).2 ∧ sumI (nowW ls (shrinkTo ls out n r).1) ≠ 0
    · rcases ih with ih | ih
      · left; exact (shrink_run h ho hn ih hc).1
      · exact absurd hc ih
    · right; rw [shrink_done hc (r + 1) (by omega)]; exact hc
theorem shrink_fin {ls : List Line} {out : List Int} (h : LOk ls) (ho : SInv ls out) {n : Int} (hn : 0 ≤ n) : ¬ (0 < (shrinkTo ls out n n.toNat).2 ∧ sumI (nowW ls (shrinkTo ls out n n.toNat).1) ≠ 0) := by
  rcases shrink_end h ho hn n.toNat with h1 | h1
  · intro hc; omega
  · exact h1

theorem requests_ge {ls : List Line} (h : LOk ls) {ss : List Span} (hs : SOk ss ls.length) : SInv ls (requests ls ss) := by
  refine ⟨requests_rok h hs, ?_⟩
  have step : ∀ (m : Int) (out : List Int) (s : Span), SInv ls out → s ∈ ss → SInv ls (reqStep ls m out s) := by
    intro m out s ho hm
    refine ⟨step_rok h ho.toROk (hs.ok s hm), fun i h1 h2 => ?_⟩
    have hio : i < out.length := by rw [ho.len]; exact h1
    have hge := ho.ge i h1 hio
    have hss := hs.ok s hm
    have e : reqStep ls m out s = putN (spread (missing out s) (slc (weights ls) s.at.toNat s.many.toNat)) s.at.toNat s.many.toNat out ∧ 0 < missing out s ∨ reqStep ls m out s = out := by
      unfold reqStep
      split
      · rename_i hc; exact .inl ⟨rfl, hc.2⟩
      · exact .inr rfl
    rcases e with ⟨e, hp⟩ | e
    · have hw := h.slc (a := s.at.toNat) (m := s.many.toNat) (by omega) (by omega)
      have := putN_ge (ps := spread (missing out s) (slc (weights ls) s.at.toNat s.many.toNat)) (a := s.at.toNat) (k := s.many.toNat) (out := out) (i := i) (spread_nonneg hw (by omega)) hio
      simp only [e]
      omega
    · simp only [e]
      exact hge
  have rnd : ∀ (m : Int) (l : List Span), (∀ s ∈ l, s ∈ ss) → ∀ out, SInv ls out → SInv ls (l.foldl (reqStep ls m) out) := by
    intro m l
    induction l with
    | nil => intro _ out ho; exact ho
    | cons s l ih => intro hl out ho; exact ih (fun x hx => hl x (by simp [hx])) _ (step m out s ho (hl s (by simp)))
  have all : ∀ m, SInv ls (reqs ls ss m) := by
    intro m
    induction m with
    | zero => exact ⟨h.mins, fun i h1 h2 => by simp [reqs, mins]⟩
    | succ m ih => exact rnd _ _ (fun s hs => List.mem_of_mem_take hs) _ ih
  exact (all _).ge
end Go.Proofs.YtpfhnhhkfobjnaaGreat

namespace Go.Proofs.YtpfhnhhkfobjnaaGreat
open Go.Fw

/-- No less anywhere. -/
def Up (xs ys : List Int) : Prop := xs.length = ys.length ∧ ∀ i (h1 : i < xs.length) (h2 : i < ys.length), xs[i] ≤ ys[i]
theorem Up.refl (xs : List Int) : Up xs xs := ⟨rfl, fun _ _ _ => Int.le_refl _⟩
theorem Up.trans {xs ys zs : List Int} (h1 : Up xs ys) (h2 : Up ys zs) : Up xs zs := ⟨h1.1.trans h2.1, fun i a b => Int.le_trans (h1.2 i a (by have := h1.1; omega)) (h2.2 i (by have := h1.1; omega) b)⟩
theorem Up.slc {xs ys : List Int} (h : Up xs ys) {a m : Nat} : sumI (slc xs a m) ≤ sumI (Go.Proofs.YtpfhnhhkfobjnaaGreat.slc ys a m) := by
  refine sumI_le (by simp [Go.Proofs.YtpfhnhhkfobjnaaGreat.slc, h.1]) fun i h1 => ?_
  rw [slc_at h1, slc_at]
  exact h.2 _ _ _

variable {ls : List Line} {ss : List Span}
/-- What lines with a weight must have, and what the others have. -/
def least (ls : List Line) (out : List Int) : Int := sumI (List.zipWith (fun (l : Line) x => if 0 < l.weight then l.min else x) ls out)

theorem less_w0 (h : LOk ls) {out : List Int} (ho : SInv ls out) {n : Int} (hn : 0 ≤ n) (hz : sumI (nowW ls out) ≠ 0) {i : Nat} (hi : i < ls.length) (hw : ls[i].weight = 0) : (less ls out n)[i]'(by rw [less_len ho.len]; exact hi) = out[i]'(by rw [ho.len]; exact hi) := by
  have hio : i < out.length := by rw [ho.len]; exact hi
  have hni : i < (nowW ls out).length := by rw [nowW_len ho.len]; exact hi
  have hsi : i < (spread n (nowW ls out)).length := by rw [spread_len]; exact hni
  have e : (nowW ls out)[i] = 0 := by rw [nowW_at hi hio]; split <;> omega
  have h0 := spread_zero (n := n) hz (i := i) (by rw [List.getElem?_eq_getElem hni, e])
  rw [List.getElem?_eq_getElem hsi] at h0
  injection h0 with h0
  have hge := ho.ge i hi hio
  rw [less_at ho.len hi, tks_at ho.len hi, h0]
  omega
theorem shrink_w0 (h : LOk ls) {out : List Int} (ho : SInv ls out) {n : Int} (hn : 0 ≤ n) {i : Nat} (hi : i < ls.length) (hw : ls[i].weight = 0) : ∀ r, (shrinkTo ls out n r).1[i]? = out[i]? := by
  intro r
  induction r with
  | zero => rfl
  | succ r ih =>
    obtain ⟨i1, i2, i3, i4⟩ := shrink_inv h ho hn r
    simp only [shrinkTo]
    split
    · rename_i hc
      have e := less_w0 h i1 i2 hc.2 hi hw
      rw [← ih, List.getElem?_eq_getElem (by rw [less_len i1.len]; exact hi), List.getElem?_eq_getElem (by rw [i1.len]; exact hi), e]
    · exact ih

/-- What is true of sizes in a room. -/
structure Sized (ls : List Line) (wish out : List Int) (room : Int) : Prop where
  len : out.length = ls.length
  ge : ∀ i (h1 : i < ls.length) (h2 : i < out.length), ls[i].min ≤ out[i]
  w0 : ∀ i (h1 : i < ls.length) (h2 : i < out.length) (h3 : i < wish.length), ls[i].weight = 0 → out[i] = wish[i]
  bd : ∀ x ∈ out, 0 ≤ x ∧ x ≤ 32768
  none : sumI (weights ls) = 0 → out = wish
  full : sumI (weights ls) ≠ 0 → least ls wish ≤ room → sumI out = room
  tight : sumI (weights ls) ≠ 0 → room < least ls wish → sumI out = least ls wish
  sum : sumI (weights ls) ≠ 0 → room ≤ sumI out ∧ (sumI wish ≤ room → sumI out = room)
  most : sumI out ≤ max room (sumI wish)
  grow : sumI wish ≤ room → Up wish out

theorem w_pos (h : LOk ls) {l : Line} (hl : l ∈ ls) (h0 : sumI (weights ls) = 0) : l.weight = 0 := by
  have := sumI_mem (xs := weights ls) (fun x hx => (h.w x hx).1) (List.mem_map.2 ⟨l, hl, rfl⟩)
  have := h.ok l hl
  omega
theorem least_le {out : List Int} (ho : SInv ls out) : least ls out ≤ sumI out := by
  refine sumI_le (by simp [ho.len]) fun i h1 => ?_
  have h1' : i < ls.length := by simp at h1; omega
  have h2' : i < out.length := by rw [ho.len]; exact h1'
  have := ho.ge i h1' h2'
  simp only [List.getElem_zipWith]
  split <;> omega
theorem sum50 {n : Nat} {out : List Int} (h : ROk n out) (hn : n ≤ 5) : 0 ≤ sumI out ∧ sumI out ≤ 20480 := by
  have : ∀ (xs : List Int), (∀ x ∈ xs, 0 ≤ x ∧ x ≤ 4096) → 0 ≤ sumI xs ∧ sumI xs ≤ 4096 * xs.length := by
    intro xs
    induction xs with
    | nil => intro _; simp [sumI]
    | cons x xs ih =>
      intro hb
      have := ih fun y hy => hb y (by simp [hy])
      have := hb x (by simp)
      simp only [sumI, List.length_cons]; omega
  have := this out h.bd
  have := h.len
  omega

theorem sizes_ok (h : LOk ls) {wish : List Int} (ho : SInv ls wish) {room : Int} (hr : 0 ≤ room ∧ room ≤ 16384) : Sized ls wish (sizes ls wish room) room := by
  have hb := sum50 ho.toROk h.hi
  have hll := least_le ho
  unfold sizes
  by_cases h1 : room - sumI wish < 0
  · rw [if_pos h1]
    have hn : 0 ≤ sumI wish - room := by omega
    obtain ⟨i1, i2, i3, i4⟩ := shrink_inv h ho hn (sumI wish - room).toNat
    have hw0 := fun i hi hw => shrink_w0 h ho hn (i := i) hi hw (sumI wish - room).toNat
    have hfin := shrink_fin h ho hn
    generalize shrinkTo ls wish (sumI wish - room) (sumI wish - room).toNat = st at *
    have hsb := sum50 i1.toROk h.hi
    have hw0' : ∀ i (h1 : i < ls.length) (h2 : i < st.1.length) (h3 : i < wish.length), ls[i].weight = 0 → st.1[i] = wish[i] := fun i a b c hw => by
      have e := hw0 i a hw
      rw [List.getElem?_eq_getElem b, List.getElem?_eq_getElem c] at e
      injection e
    have hle : least ls wish = least ls st.1 := by
      unfold least
      congr 1
      refine List.ext_getElem (by simp [i1.len, ho.len]) fun i a b => ?_
      simp only [List.getElem_zipWith]
      split
      · rfl
      · have a' : i < ls.length := by simp at a; omega
        have := h.ok _ (List.getElem_mem a')
        exact (hw0' i a' (by rw [i1.len]; exact a') (by rw [ho.len]; exact a') (by omega)).symm
    have hl2 := least_le i1
    have hstop : 0 < st.2 → sumI st.1 = least ls st.1 := by
      intro hp
      have hz : sumI (nowW ls st.1) = 0 := Decidable.byContradiction fun hc => hfin ⟨hp, hc⟩
      have hnw := nowW_ok h i1.len
      unfold least
      congr 1
      refine List.ext_getElem (by simp [i1.len]) fun i a b => ?_
      have a' : i < ls.length := by rw [i1.len] at a; exact a
      simp only [List.getElem_zipWith]
      have hmem := sumI_mem (fun x hx => (hnw.w x hx).1) (List.getElem_mem (show i < (nowW ls st.1).length by rw [nowW_len i1.len]; exact a'))
      have hx := hnw.w _ (List.getElem_mem (show i < (nowW ls st.1).length by rw [nowW_len i1.len]; exact a'))
      rw [nowW_at a' a] at hmem hx
      have := i1.ge i a' a
      have := h.ok _ (List.getElem_mem a')
      split
      · split at hmem <;> omega
      · rfl
    refine ⟨i1.len, i1.ge, hw0', fun x hx => by have := i1.bd x hx; omega, fun h0 => ?_, fun h0 hle' => ?_, fun h0 hlt => ?_, fun h0 => ⟨by omega, fun hc => by omega⟩, by omega, fun hc => by omega⟩
    · refine List.ext_getElem (by rw [i1.len, ho.len]) fun i a b => ?_
      exact hw0' i (by rw [i1.len] at a; exact a) a b (w_pos h (List.getElem_mem _) h0)
    · by_cases hp : 0 < st.2
      · have := hstop hp; omega
      · omega
    · by_cases hp : 0 < st.2
      · have := hstop hp; omega
      · omega
  · rw [if_neg h1]
    by_cases h0 : sumI (weights ls) = 0
    · rw [if_pos h0]
      exact ⟨ho.len, ho.ge, fun i a b c _ => rfl, fun x hx => by have := ho.bd x hx; omega, fun _ => rfl, fun hc => absurd h0 hc, fun hc => absurd h0 hc, fun hc => absurd h0 hc, by omega, fun _ => Up.refl _⟩
    · rw [if_neg h0]
      have hs := spread_sum h.all (n := room - sumI wish) (by omega)
      have hbd := spread_bd h.all (n := room - sumI wish) (by omega)
      have hsl : (spread (room - sumI wish) (weights ls)).length = wish.length := by rw [spread_len, ho.len]; simp [weights]
      have hz := fun i => spread_zero (n := room - sumI wish) h0 (i := i)
      have htot : sumI (putN (spread (room - sumI wish) (weights ls)) 0 wish.length wish) = room := by
        have e := putN_slc (ps := spread (room - sumI wish) (weights ls)) (out := wish) (a := 0) (m := wish.length) (by omega) hsl
        simp only [slc, List.drop_zero, List.take_length] at e
        rw [List.take_of_length_le (by rw [putN_len]; omega)] at e
        rw [e, sumI_zip (by rw [hsl]), hs]; omega
      generalize spread (room - sumI wish) (weights ls) = ps at *
      have hat : ∀ i (a : i < wish.length), (putN ps 0 wish.length wish)[i]'(by rw [putN_len]; exact a) = wish[i] + ps[i]'(by omega) := fun i a => by
        simp only [putN, List.getElem_mapIdx]
        rw [if_pos (by omega), Nat.sub_zero, List.getElem?_eq_getElem (by omega)]; rfl
      refine ⟨by rw [putN_len, ho.len], fun i a b => ?_, fun i a b c hw => ?_, fun x hx => ?_, fun hc => absurd hc h0, fun _ _ => htot, fun _ hlt => by omega, fun _ => ⟨by omega, fun _ => htot⟩, by omega, fun _ => ⟨by rw [putN_len], fun i a b => ?_⟩⟩
      · have a' : i < wish.length := by rw [ho.len]; exact a
        rw [hat i a']
        have := ho.ge i a a'
        have := hbd _ (List.getElem_mem (show i < ps.length by omega))
        omega
      · rw [hat i c]
        have e := hz i (by simp only [weights]; rw [List.getElem?_map, List.getElem?_eq_getElem a]; simp [hw])
        rw [List.getElem?_eq_getElem (by omega)] at e
        injection e with e
        omega
      · obtain ⟨i, hi, rfl⟩ := List.mem_iff_getElem.1 hx
        rw [putN_len] at hi
        rw [hat i hi]
        have := hbd _ (List.getElem_mem (show i < ps.length by omega))
        have := ho.bd _ (List.getElem_mem hi)
        omega
      · rw [hat i a]
        have := hbd _ (List.getElem_mem (show i < ps.length by omega))
        omega
/-- Sums of the first numbers. -/
theorem take_slc {xs : List Int} {a m : Nat} : sumI (xs.take (a + m)) = sumI (xs.take a) + sumI (slc xs a m) := by
  rw [← sumI_app, slc, List.take_add]
theorem take_le {xs : List Int} (h : ∀ x ∈ xs, 0 ≤ x) {a b : Nat} (hab : a ≤ b) : sumI (xs.take a) ≤ sumI (xs.take b) := by
  obtain ⟨m, rfl⟩ := Nat.exists_eq_add_of_le hab
  rw [take_slc]
  have := sumI_nonneg (xs := slc xs a m) fun x hx => h x (slc_mem hx)
  omega
theorem take_all {xs : List Int} (h : ∀ x ∈ xs, 0 ≤ x) {a : Nat} : sumI (xs.take a) ≤ sumI xs := by
  by_cases ha : a ≤ xs.length
  · have := take_le h ha
    rwa [List.take_length] at this
  · rw [List.take_of_length_le (by omega)]; exact Int.le_refl _
end Go.Proofs.YtpfhnhhkfobjnaaGreat

namespace Go.Proofs.YtpfhnhhkfobjnaaGreat
open Go.Fw

def colSpan (c : Cell) : Span := ⟨c.col, c.manyCols, c.w + 2 * c.padX⟩
def rowSpan (c : Cell) : Span := ⟨c.row, c.manyRows, c.h + 2 * c.padY⟩
def colSpans (cs : List Cell) : List Span := cs.map colSpan
def rowSpans (cs : List Cell) : List Span := cs.map rowSpan

/-- A grid that is valid, taken apart. -/
structure GOk (g : Grid) : Prop where
  cols : LOk g.cols
  rows : LOk g.rows
  hi : g.cells.length ≤ 10
  ok : ∀ c ∈ g.cells, (0 ≤ c.w ∧ c.w ≤ 4076 ∧ 0 ≤ c.h ∧ c.h ≤ 4076) ∧ (0 ≤ c.col ∧ c.col ≤ (g.cols.length : Int) - 1 ∧ 1 ≤ c.manyCols ∧ c.manyCols ≤ g.cols.length - c.col ∧ 0 ≤ c.row ∧ c.row ≤ (g.rows.length : Int) - 1 ∧ 1 ≤ c.manyRows ∧ c.manyRows ≤ g.rows.length - c.row ∧ 0 ≤ c.stick ∧ c.stick ≤ 15 ∧ 0 ≤ c.padX ∧ c.padX ≤ 10 ∧ 0 ≤ c.padY ∧ c.padY ≤ 10)
theorem GOk.cspans {g : Grid} (h : GOk g) : SOk (colSpans g.cells) g.cols.length := by
  refine ⟨by simp [colSpans]; exact h.hi, fun s hs => ?_⟩
  obtain ⟨c, hc, rfl⟩ := List.mem_map.1 hs
  have := h.ok c hc
  simp only [colSpan]; omega
theorem GOk.rspans {g : Grid} (h : GOk g) : SOk (rowSpans g.cells) g.rows.length := by
  refine ⟨by simp [rowSpans]; exact h.hi, fun s hs => ?_⟩
  obtain ⟨c, hc, rfl⟩ := List.mem_map.1 hs
  have := h.ok c hc
  simp only [rowSpan]; omega

def gridReq (g : Grid) : Int × Int := (sumI (requests g.cols (colSpans g.cells)), sumI (requests g.rows (rowSpans g.cells)))
def colSizes (g : Grid) (w : Int) : List Int := sizes g.cols (requests g.cols (colSpans g.cells)) w
def rowSizes (g : Grid) (h : Int) : List Int := sizes g.rows (requests g.rows (rowSpans g.cells)) h
theorem GOk.csz {g : Grid} (h : GOk g) {w : Int} (hw : 0 ≤ w ∧ w ≤ 16384) : Sized g.cols (requests g.cols (colSpans g.cells)) (colSizes g w) w := sizes_ok h.cols (requests_ge h.cols h.cspans) hw
theorem GOk.rsz {g : Grid} (h : GOk g) {w : Int} (hw : 0 ≤ w ∧ w ≤ 16384) : Sized g.rows (requests g.rows (rowSpans g.cells)) (rowSizes g w) w := sizes_ok h.rows (requests_ge h.rows h.rspans) hw

/-- Where something that asks for a size lies in a room. -/
def stuckAt (room size : Int) (first last : Bool) : Int := if first then 0 else if last then room - min size room else (room - min size room).tdiv 2
def stuckLen (room size : Int) (first last : Bool) : Int := if first && last then room else min size room

def bitL (s : Int) : Bool := decide (s.tmod 2 = 1)
def bitR (s : Int) : Bool := decide ((s.tdiv 2).tmod 2 = 1)
def bitT (s : Int) : Bool := decide ((s.tdiv 4).tmod 2 = 1)
def bitB (s : Int) : Bool := decide (s.tdiv 8 = 1)
def areaOf (xs ys : List Int) (r : Rect) (c : Cell) : Rect := ⟨r.x + sumI (xs.take c.col.toNat), r.y + sumI (ys.take c.row.toNat), sumI (slc xs c.col.toNat c.manyCols.toNat), sumI (slc ys c.row.toNat c.manyRows.toNat)⟩
def cellIn (q : Rect) (c : Cell) : Rect := ⟨q.x + stuckAt q.w c.w (bitL c.stick) (bitR c.stick), q.y + stuckAt q.h c.h (bitT c.stick) (bitB c.stick), stuckLen q.w c.w (bitL c.stick) (bitR c.stick), stuckLen q.h c.h (bitT c.stick) (bitB c.stick)⟩
def cellRect (xs ys : List Int) (r : Rect) (c : Cell) : Rect := cellIn (inset (areaOf xs ys r c) c.padX c.padY) c
def gridRectsIn (g : Grid) (r : Rect) : List Rect := g.cells.map (cellRect (colSizes g r.w) (rowSizes g r.h) r)

theorem stuck_bd {room size : Int} {a b : Bool} (hr : 0 ≤ room) (hs : 0 ≤ size) : 0 ≤ stuckAt room size a b ∧ 0 ≤ stuckLen room size a b ∧ stuckAt room size a b + stuckLen room size a b ≤ room ∧ min size room ≤ stuckLen room size a b := by
  have e := tdiv2 (n := room - min size room) (by omega)
  unfold stuckAt stuckLen
  cases a <;> cases b <;> simp <;> omega

end Go.Proofs.YtpfhnhhkfobjnaaGreat

namespace Go.Proofs.YtpfhnhhkfobjnaaGreat
open Go.Fw
attribute [local irreducible] Go.Fw.aops Go.Fw.arun

/-- Needs of items together. -/
def preqs : List Pack → Int × Int
  | [] => (0, 0)
  | p :: ps => if down p then (max (needW p) (preqs ps).1, needH p + (preqs ps).2) else (needW p + (preqs ps).1, max (needH p) (preqs ps).2)

theorem needWH {p : Pack} (h : packB p = true) : 0 ≤ needW p ∧ needW p ≤ 4096 ∧ 0 ≤ needH p ∧ needH p ≤ 4096 := by
  have := packB_iff.1 h
  unfold needW needH
  omega

theorem preqs_bd : ∀ {xs : List Pack}, xs.all packB = true → 0 ≤ (preqs xs).1 ∧ (preqs xs).1 ≤ 4096 * xs.length ∧ 0 ≤ (preqs xs).2 ∧ (preqs xs).2 ≤ 4096 * xs.length
  | [], _ => by simp [preqs]
  | p :: ps, h => by
    simp only [List.all_cons, Bool.and_eq_true] at h
    have h1 := needWH h.1
    have h2 := preqs_bd h.2
    simp only [preqs, List.length_cons]
    split <;> dsimp only <;> omega

/-- Needs together are no more than all needs. -/
theorem preqs_sum : ∀ {xs : List Pack}, xs.all packB = true → 0 ≤ sumI (xs.map needW) ∧ 0 ≤ sumI (xs.map needH) ∧ (preqs xs).1 ≤ sumI (xs.map needW) ∧ (preqs xs).2 ≤ sumI (xs.map needH)
  | [], _ => by simp [preqs, sumI]
  | p :: ps, h => by
    simp only [List.all_cons, Bool.and_eq_true] at h
    have h1 := needWH h.1
    have h2 := preqs_sum h.2
    simp only [preqs, List.map_cons, sumI]
    split <;> dsimp only <;> omega

theorem preqs_drop {xs : List Pack} {k : Nat} (h : k < xs.length) : preqs (xs.drop k) = if down xs[k] then (max (needW xs[k]) (preqs (xs.drop (k + 1))).1, needH xs[k] + (preqs (xs.drop (k + 1))).2) else (needW xs[k] + (preqs (xs.drop (k + 1))).1, max (needH xs[k]) (preqs (xs.drop (k + 1))).2) := by
  rw [List.drop_eq_getElem_cons h]; rfl

theorem c_preqS (xs : List Pack) (hl : xs.length ≤ 10) (hv : xs.all packB = true) : ACon Tryz.prog 88 [.d (.lst (xs.map encPack))] [] (Is (.tup [.d (.int .i64 (preqs xs).1), .d (.int .i64 (preqs xs).2)])) := by
  refine ACon.introW tok (nt := 44) Tryz.func88 rfl rfl rfl (by kernel_rfl) rfl ?_
  repeat' (first | ((with_reducible apply xsim); (first | ((with_reducible apply xlenM); exact rfl; exact rfl) | ((with_reducible apply xo); exact rfl) | with_reducible apply xend)) | ((with_reducible apply xaw); (first | ((with_reducible apply xstepS); refine AW.step tok rfl ?_) | with_reducible (first | refine AW.seq ?_ | refine AW.block ?_))) | with_reducible (first | exact trivial | refine And.intro ?_ ?_ | exact rfl) | (refine inR_i64.mpr ?_; first | omega | (simp only [List.length_map]; omega)))
  refine AW.loop (S := fun k : Nat => ⟨[(0, .d (.lst (xs.map encPack))), (4, .d (.int .i64 (preqs (xs.drop k)).1)), (5, .d (.int .i64 (preqs (xs.drop k)).2)), (6, .d (.int .i64 ((k : Int) - 1)))], [], 44, .p 0⟩)
    (Pre := fun k => k ≤ xs.length) (μ := fun k => k) xs.length (Nat.le_refl _) ?_ ?_
  · (refine xwk (π := []) (by decide) rfl ?_ ?_; (first | exact trivial); repeat' (first | exact renE_n | ((with_reducible apply renE_c); exact rfl; focus (first | (simp -implicitDefEqProofs only [go_sem, List.drop_length, preqs]; done)))))
  · intro k hk
    have b1 := preqs_bd (all_drop (k := k) hv)
    rw [List.length_drop] at b1
    by_cases h0 : k = 0
    · subst h0
      repeat' (first | ((with_reducible apply xsim); (first | ((with_reducible apply xo); exact rfl) | with_reducible apply xend)) | ((with_reducible apply xaw); (first | ((with_reducible apply xstepS); refine AW.step tok rfl ?_) | with_reducible (first | refine AW.seq ?_ | refine AW.ret ?_ | refine AW.exit ?_) | ((with_reducible apply xcond); exact rfl))) | with_reducible (first | refine xthen ?_ | refine xthen_e ?_ | refine xblock_e ?_ | refine xround_e ?_) | (with_reducible intro hc; (try simp only [hcL, reduceCtorEq] at hc); (try (exfalso; omega))) | with_reducible (first | exact trivial | refine And.intro ?_ ?_ | exact rfl))
      (refine xfinIs (by first | exact .inl rfl | exact .inr rfl) rfl (by repeat' (first | exact trivial | exact rfl | refine And.intro ?_ ?_)) rfl ?_ rfl; first | (simp -implicitDefEqProofs only [go_sem, List.drop_zero] <;> (first | rfl | omega | exact decide_eq_decide.2 (by omega) | exact decide_eq_false (by omega) | exact decide_eq_true (by omega) | (symm; first | exact decide_eq_false (by omega) | exact decide_eq_true (by omega)) | (rw [Bool.eq_iff_iff]; simp only [boL, reduceCtorEq]; omega))))
    · obtain ⟨j, rfl⟩ : ∃ j, k = j + 1 := ⟨k - 1, by omega⟩
      have hj : j < xs.length := by omega
      have hrow := at_map (f := encPack) hj
      have hv1 := all_at hv hj
      have hn := needWH hv1
      have hd := preqs_drop hj
      have hdn : decide (xs[j].side = 0 ∨ xs[j].side = 1) = down xs[j] := rfl
      have hrow2 : (List.map encPack xs)[(((j + 1 : Nat) : Int) - 1).toNat]? = some (encPack xs[j]) := by rw [show (((j + 1 : Nat) : Int) - 1).toNat = j by omega]; exact hrow
      cases hdd : down xs[j]
      all_goals
        rw [hdd] at hd
        simp only [Bool.false_eq_true, if_false, if_true] at hd
        repeat' (first | ((with_reducible apply xsim); (first | ((with_reducible apply xo); exact rfl) | with_reducible apply xend | ((with_reducible apply xidxL); exact rfl; exact rfl; exact rfl; (first | exact hrow2); omega; first | exact rfl | simp only [hsz]) | ((with_reducible apply xcallIs); exact rfl; exact rfl; (first | exact c_outer xs[j] hv1 | exact c_upright xs[j].side); exact rfl))) | ((with_reducible apply xaw); (first | ((with_reducible apply xstepS); refine AW.step tok rfl ?_) | ((with_reducible apply xstep); refine AW.region tok rfl ?_) | with_reducible (first | refine AW.seq ?_ | refine AW.block ?_ | refine AW.skip ?_) | ((with_reducible apply xcond); exact rfl))) | with_reducible (first | refine xthen ?_ | refine xblock ?_) | (with_reducible intro hc; (try simp only [hcL, reduceCtorEq, hdn, hdd] at hc); (try (exfalso; omega))) | with_reducible (first | exact trivial | refine And.intro ?_ ?_ | exact rfl) | exact Eq.refl true | (refine inR_i64.mpr ?_; first | omega | (simp only [List.length_map, hdn, hdd]; omega)))
        refine round_end j (by omega) (by omega) (by (refine xwk (π := []) (by decide) rfl ?_ ?_; (first | exact trivial); repeat' (first | exact renE_n | ((with_reducible apply renE_c); exact rfl; focus (first | (simp -implicitDefEqProofs only [go_sem, hd]; done) | (simp -implicitDefEqProofs only [go_sem, hd]; omega))))))

theorem c_preqI : ∀ (xs : List Pack) (hl : xs.length ≤ 10) (hv : xs.all packB = true), ACon Tryz.prog 84 [.d (.lst (xs.map encPack))] [] (Is (.tup [.d (.int .i64 (preqs xs).1), .d (.int .i64 (preqs xs).2)]))
  | [], hl, hv => by
    refine ACon.introW tok (nt := 40) Tryz.func84 rfl rfl rfl (by kernel_rfl) rfl ?_
    repeat' (first | ((with_reducible apply xsim); (first | ((with_reducible apply xlenM); exact rfl; exact rfl) | ((with_reducible apply xo); exact rfl) | with_reducible apply xend)) | ((with_reducible apply xaw); (first | ((with_reducible apply xstepS); refine AW.step tok rfl ?_) | with_reducible (first | refine AW.seq ?_ | refine AW.ret ?_) | ((with_reducible apply xcond); exact rfl))) | with_reducible refine xthen_r ?_ | (with_reducible intro hc; (try simp only [hcL, reduceCtorEq, List.length_nil, Int.natCast_zero] at hc); (try (exfalso; omega))) | with_reducible (first | exact trivial | refine And.intro ?_ ?_ | exact rfl))
    (refine xfinIs (by first | exact .inl rfl | exact .inr rfl) rfl (by repeat' (first | exact trivial | exact rfl | refine And.intro ?_ ?_)) rfl ?_ rfl; first | (simp -implicitDefEqProofs only [go_sem, preqs] <;> (first | rfl | omega | exact decide_eq_decide.2 (by omega) | exact decide_eq_false (by omega) | exact decide_eq_true (by omega) | (symm; first | exact decide_eq_false (by omega) | exact decide_eq_true (by omega)) | (rw [Bool.eq_iff_iff]; simp only [boL, reduceCtorEq]; omega))))
  | p :: ps, hl, hv => by
    have hv2 := hv
    simp only [List.all_cons, Bool.and_eq_true] at hv2
    simp only [List.length_cons] at hl
    have ih := c_preqI ps (by omega) hv2.2
    have b1 := preqs_bd hv2.2
    have hn := needWH hv2.1
    cases hd : down p
    all_goals
      refine ACon.introW tok (nt := 40) Tryz.func84 rfl rfl rfl (by kernel_rfl) rfl ?_
      repeat' (first | ((with_reducible apply xsim); (first | ((with_reducible apply xlenM); exact rfl; exact rfl) | ((with_reducible apply xo); exact rfl) | with_reducible apply xend | ((with_reducible apply xidxL); exact rfl; exact rfl; exact rfl; exact rfl; omega; first | exact rfl | simp only [hsz]) | ((with_reducible apply xslcLo); exact rfl; exact rfl; exact rfl; exact (fun r hr => by obtain ⟨a, _, rfl⟩ := List.mem_map.1 hr; rfl); first | omega | (simp only [List.length_cons, List.length_nil]; omega)) | ((with_reducible apply xcallIs); exact rfl; exact rfl; (first | exact ih | exact c_needs p hv2.1 | exact c_down p); exact rfl))) | ((with_reducible apply xaw); (first | ((with_reducible apply xstepS); refine AW.step tok rfl ?_) | with_reducible (first | refine AW.seq ?_ | refine AW.skip ?_ | refine AW.ret ?_) | ((with_reducible apply xcond); exact rfl))) | with_reducible (first | refine xthen ?_ | refine xthen_r ?_) | (with_reducible intro hc; (try simp only [hcL, reduceCtorEq, List.length_cons, hd] at hc); (try (exfalso; omega))) | with_reducible (first | exact trivial | refine And.intro ?_ ?_ | exact rfl) | exact Eq.refl true | (refine inR_i64.mpr ?_; first | omega | (simp only [List.length_map, List.length_cons, hd]; omega)))
      all_goals (refine xfinIs (by first | exact .inl rfl | exact .inr rfl) rfl (by repeat' (first | exact trivial | exact rfl | refine And.intro ?_ ?_)) rfl ?_ rfl; first | (simp -implicitDefEqProofs only [go_sem, preqs, hd, Bool.false_eq_true] <;> (first | rfl | omega | exact decide_eq_decide.2 (by omega) | exact decide_eq_false (by omega) | exact decide_eq_true (by omega) | (symm; first | exact decide_eq_false (by omega) | exact decide_eq_true (by omega)) | (rw [Bool.eq_iff_iff]; simp only [boL, reduceCtorEq]; omega))))

/-! Requests of lines are no more than all that is asked for. -/
theorem sumI_putN {ps out : List Int} {a m : Nat} (h : a + m ≤ out.length) (hp : ps.length = m) : sumI (putN ps a m out) = sumI out + sumI ps := by
  have key : ∀ (xs : List Int), sumI xs = sumI (xs.take a) + sumI (slc xs a m) + sumI (xs.drop (a + m)) := by
    intro xs
    rw [slc, ← sumI_app, ← sumI_app]
    congr 1
    rw [← List.drop_drop, List.append_assoc, List.take_append_drop, List.take_append_drop]
  have e1 : (putN ps a m out).take a = out.take a := by
    refine List.ext_getElem (by simp [putN_len]) fun i h1 h2 => ?_
    simp only [List.getElem_take, putN, List.getElem_mapIdx]
    rw [if_neg (by simp at h2; omega)]
  have e2 : (putN ps a m out).drop (a + m) = out.drop (a + m) := by
    refine List.ext_getElem (by simp [putN_len]) fun i h1 h2 => ?_
    simp only [List.getElem_drop, putN, List.getElem_mapIdx]
    rw [if_neg (by omega)]
  rw [key (putN ps a m out), key out, e1, e2, putN_slc h hp, sumI_zip (by rw [slc_len h, hp])]
  omega

theorem step_most {ls : List Line} (h : LOk ls) {m : Int} {out : List Int} (ho : ROk ls.length out) {s : Span} (hs : 0 ≤ s.at ∧ s.at ≤ (ls.length : Int) - 1 ∧ 1 ≤ s.many ∧ s.many ≤ ls.length - s.at ∧ 0 ≤ s.need ∧ s.need ≤ 4096) :
    sumI (reqStep ls m out s) ≤ sumI out + if s.many = m then s.need else 0 := by
  unfold reqStep
  split
  · rename_i hc
    have hw := h.slc (a := s.at.toNat) (m := s.many.toNat) (by omega) (by omega)
    have hpl : (spread (missing out s) (slc (weights ls) s.at.toNat s.many.toNat)).length = s.many.toNat := by rw [spread_len]; exact slc_len (by simp [weights]; omega)
    have hle : 0 ≤ sumI (slc out s.at.toNat s.many.toNat) := sumI_nonneg fun x hx => (ho.bd x (slc_mem hx)).1
    have hmi : missing out s = s.need - sumI (slc out s.at.toNat s.many.toNat) := rfl
    rw [sumI_putN (by rw [ho.len]; omega) hpl, spread_sum hw (by omega), if_pos hc.1]
    omega
  · split <;> omega
theorem round_most {ls : List Line} (h : LOk ls) {ss : List Span} (hs : SOk ss ls.length) {m : Int} {out : List Int} (ho : ROk ls.length out) : ∀ k, k ≤ ss.length → sumI (reqRound ls ss m out k) ≤ sumI out + sumI ((ss.map fun s : Span => if s.many = m then s.need else 0).take k) := by
  intro k
  induction k with
  | zero => intro _; simp [reqRound, sumI]
  | succ k ih =>
    intro hk
    rw [reqRound_succ (by omega), sumI_take (by simp; omega)]
    have := step_most h (m := m) (round_rok h hs (m := m) ho k (by omega)) (hs.ok _ (List.getElem_mem (show k < ss.length by omega)))
    have := ih (by omega)
    simp only [List.getElem_map]
    omega
theorem sumI_maps {α : Type} {f g : α → Int} {h : α → Int} : ∀ {xs : List α}, (∀ x ∈ xs, f x + g x = h x) → sumI (xs.map f) + sumI (xs.map g) = sumI (xs.map h)
  | [], _ => rfl
  | x :: xs, he => by
    have h1 := sumI_maps (xs := xs) fun y hy => he y (by simp [hy])
    have h2 := he x (by simp)
    simp only [List.map_cons, sumI]; omega
theorem sumI_mono {α : Type} {f g : α → Int} : ∀ {xs : List α}, (∀ x ∈ xs, f x ≤ g x) → sumI (xs.map f) ≤ sumI (xs.map g)
  | [], _ => Int.le_refl _
  | x :: xs, he => by
    have h1 := sumI_mono (xs := xs) fun y hy => he y (by simp [hy])
    have h2 := he x (by simp)
    simp only [List.map_cons, sumI]; omega
theorem reqs_most {ls : List Line} (h : LOk ls) {ss : List Span} (hs : SOk ss ls.length) : ∀ k : Nat, sumI (reqs ls ss k) ≤ sumI (mins ls) + sumI (ss.map fun s : Span => if s.many ≤ k then s.need else 0) := by
  intro k
  induction k with
  | zero =>
    have : 0 ≤ sumI (ss.map fun s : Span => if s.many ≤ ((0 : Nat) : Int) then s.need else 0) := sumI_nonneg fun x hx => by
      obtain ⟨s, hs', rfl⟩ := List.mem_map.1 hx
      have := hs.ok s hs'
      split <;> omega
    simp only [reqs]; omega
  | succ k ih =>
    have h1 := round_most h hs (m := ((k + 1 : Nat) : Int)) (reqs_rok h hs k) ss.length (Nat.le_refl _)
    rw [List.take_of_length_le (by simp)] at h1
    have h2 := sumI_maps (xs := ss) (f := fun s : Span => if s.many ≤ (k : Int) then s.need else 0) (g := fun s : Span => if s.many = ((k + 1 : Nat) : Int) then s.need else 0) (h := fun s : Span => if s.many ≤ ((k + 1 : Nat) : Int) then s.need else 0) (by
      intro s _
      by_cases c1 : s.many ≤ (k : Int)
      · rw [if_pos c1, if_neg (by omega), if_pos (by omega)]; omega
      · by_cases c2 : s.many = ((k + 1 : Nat) : Int)
        · rw [if_neg c1, if_pos c2, if_pos (by omega)]; omega
        · rw [if_neg c1, if_neg c2, if_neg (by omega)]; omega)
    simp only [reqs]
    have e : (((k : Nat) : Int) + 1) = ((k + 1 : Nat) : Int) := by omega
    rw [e]
    omega
theorem requests_most {ls : List Line} (h : LOk ls) {ss : List Span} (hs : SOk ss ls.length) : sumI (requests ls ss) ≤ 150 + sumI (ss.map Span.need) := by
  have h1 := reqs_most h hs ls.length
  have h2 : sumI (ss.map fun s : Span => if s.many ≤ (ls.length : Int) then s.need else 0) ≤ sumI (ss.map Span.need) := sumI_mono fun s hs' => by
    have := hs.ok s hs'
    split <;> omega
  have h3 : sumI (mins ls) ≤ 30 * 5 := by
    have key : ∀ xs : List Line, (∀ l ∈ xs, l.min ≤ 30) → sumI (mins xs) ≤ 30 * xs.length := by
      intro xs
      induction xs with
      | nil => intro _; simp [mins, sumI]
      | cons x xs ih =>
        intro hx
        have a := ih fun l hl => hx l (by simp [hl])
        have b := hx x (by simp)
        simp only [mins, List.map_cons, sumI, List.length_cons] at a ⊢
        omega
    have := key ls fun l hl => by have := h.ok l hl; omega
    have := h.hi
    omega
  unfold requests
  omega
theorem requests_least {ls : List Line} (h : LOk ls) {ss : List Span} (hs : SOk ss ls.length) : 0 ≤ sumI (requests ls ss) := sumI_nonneg fun x hx => ((requests_rok h hs).bd x hx).1
end Go.Proofs.YtpfhnhhkfobjnaaGreat

namespace Go.Proofs.YtpfhnhhkfobjnaaGreat
open Go.Fw

/-- A valid tree, taken apart. -/
structure TreeK (t : List Node) : Prop where
  lo : 1 ≤ t.length
  hi : t.length ≤ 10
  ok : ∀ i (h : i < t.length), nodeOk t[i] = true
  root : ∀ h : 0 < t.length, t[0].parent = -1
  up : ∀ i (h : i < t.length), 0 < i → 0 ≤ t[i].parent ∧ t[i].parent ≤ (i : Int) - 1
  lie : ∀ i (h : i < t.length) (j : Nat) (hj : j < t.length), 0 < i → t[i].parent = (j : Int) → t[j].kind = 1 → lies t[i].cell t[j].cols.length t[j].rows.length = true
theorem treeK {t : List Node} (h : treeOk t = true) : TreeK t := by
  obtain ⟨⟨h1, h2⟩, h3⟩ := treeOk_iff.1 h
  have hup : ∀ i (h : i < t.length), 0 < i → 0 ≤ t[i].parent ∧ t[i].parent ≤ (i : Int) - 1 := by
    intro i hi h0
    by_cases hr : 0 ≤ t[i].parent ∧ t[i].parent ≤ (i : Int) - 1
    · exact hr
    · have := (h3 i hi).2
      rw [upOk_out h0 hr] at this
      cases this
  refine ⟨h1, h2, fun i hi => (h3 i hi).1, fun h0 => ?_, hup, ?_⟩
  · have := (h3 0 h0).2
    rw [upOk_0] at this
    exact of_decide_eq_true this
  · intro i hi j hj h0 hp hk
    have := (h3 i hi).2
    have hr := hup i hi h0
    rw [upOk_in h0 hi hr] at this
    have e : t[i].parent.toNat = j := by omega
    simp only [e] at this
    rw [if_pos hk] at this
    exact this

instance : Inhabited Node := ⟨⟨0, 0, 0, false, 0, [], [], ⟨0, 0, 0, false, false, false, 0, 0, 0⟩, ⟨0, 0, 0, 0, 0, 0, 0, 0, 0⟩, ⟨0, 0, 0, 0, 0, 0, 0, 0, 0⟩⟩⟩
def nodeAt (t : List Node) (k : Nat) : Node := (t[k]?).getD default
theorem nodeAt_eq {t : List Node} {k : Nat} (h : k < t.length) : nodeAt t k = t[k] := by simp [nodeAt, h]

def isKid (t : List Node) (i k : Nat) : Bool := decide ((nodeAt t k).parent = (i : Int))
def kidsTo (t : List Node) (i k : Nat) : List Nat := (List.range k).filter (isKid t i)
def kids (t : List Node) (i : Nat) : List Nat := kidsTo t i t.length
theorem kidsTo_succ {t : List Node} {i k : Nat} : kidsTo t i (k + 1) = kidsTo t i k ++ if isKid t i k = true then [k] else [] := by
  simp only [kidsTo, List.range_succ, List.filter_append, List.filter_cons, List.filter_nil]
theorem kids_len (t : List Node) (i : Nat) : ∀ k, (kidsTo t i k).length ≤ k := fun k => by
  have := List.length_filter_le (isKid t i) (List.range k)
  simpa [kidsTo] using this
theorem mem_kids {t : List Node} {i k : Nat} : k ∈ kids t i ↔ k < t.length ∧ (nodeAt t k).parent = (i : Int) := by
  simp [kids, kidsTo, isKid]
theorem TreeK.kid {t : List Node} (h : TreeK t) {i k : Nat} (hk : k ∈ kids t i) : ∃ h1 : k < t.length, i < k ∧ t[k].parent = (i : Int) := by
  obtain ⟨h1, h2⟩ := mem_kids.1 hk
  rw [nodeAt_eq h1] at h2
  refine ⟨h1, ?_, h2⟩
  by_cases h0 : k = 0
  · subst h0
    have := h.root h1
    omega
  · have := h.up k h1 (by omega)
    omega

def packOf (n : Node) (s : Int × Int) : Pack := ⟨s.1, s.2, n.pack.side, n.pack.fillX, n.pack.fillY, n.pack.expand, n.pack.anchor, n.pack.padX, n.pack.padY⟩
def cellOf (n : Node) (s : Int × Int) : Cell := ⟨n.cell.col, n.cell.row, n.cell.manyCols, n.cell.manyRows, s.1, s.2, n.cell.stick, n.cell.padX, n.cell.padY⟩
/-- What a node asks for, if it is told what its kids ask for. -/
def wishOf (t : List Node) (i : Nat) (f : Nat → Int × Int) : Int × Int :=
  if (nodeAt t i).keep = true ∨ kids t i = [] ∨ (nodeAt t i).kind = 2 then ((nodeAt t i).w, (nodeAt t i).h)
  else if (nodeAt t i).kind = 0 then preqs ((kids t i).map fun k => packOf (nodeAt t k) (f k))
  else gridReq ⟨(nodeAt t i).cols, (nodeAt t i).rows, (kids t i).map fun k => cellOf (nodeAt t k) (f k)⟩
def wishF (t : List Node) : Nat → Nat → Int × Int
  | 0, _ => (0, 0)
  | f + 1, i => wishOf t i (wishF t f)
def wish (t : List Node) (i : Nat) : Int × Int := wishF t t.length i
theorem wishOf_congr {t : List Node} {i : Nat} {f g : Nat → Int × Int} (h : ∀ k ∈ kids t i, f k = g k) : wishOf t i f = wishOf t i g := by
  unfold wishOf
  rw [List.map_congr_left (f := fun k => packOf (nodeAt t k) (f k)) (g := fun k => packOf (nodeAt t k) (g k)) fun k hk => by rw [h k hk],
    List.map_congr_left (f := fun k => cellOf (nodeAt t k) (f k)) (g := fun k => cellOf (nodeAt t k) (g k)) fun k hk => by rw [h k hk]]
theorem wishF_fuel {t : List Node} (h : TreeK t) : ∀ (f g i : Nat), i < t.length → t.length - i ≤ f → t.length - i ≤ g → wishF t f i = wishF t g i := by
  intro f
  induction f with
  | zero => intro g i hi h1; omega
  | succ f ih =>
    intro g i hi h1 h2
    cases g with
    | zero => omega
    | succ g =>
      simp only [wishF]
      refine wishOf_congr fun k hk => ?_
      obtain ⟨a, b, _⟩ := h.kid hk
      exact ih g k a (by omega) (by omega)
theorem wish_eq {t : List Node} (h : TreeK t) {i : Nat} (hi : i < t.length) : wish t i = wishOf t i (wish t) := by
  unfold wish
  obtain ⟨n, hn⟩ : ∃ n, t.length = n + 1 := ⟨t.length - 1, by omega⟩
  rw [hn]
  simp only [wishF]
  refine wishOf_congr fun k hk => ?_
  obtain ⟨a, b, _⟩ := h.kid hk
  exact wishF_fuel h n (n + 1) k a (by omega) (by omega)
def itemsOf (t : List Node) (ks : List Nat) : List Pack := ks.map fun k => packOf (nodeAt t k) (wish t k)
def cellsOf (t : List Node) (ks : List Nat) : List Cell := ks.map fun k => cellOf (nodeAt t k) (wish t k)
def gridOf (t : List Node) (i : Nat) (ks : List Nat) : Grid := ⟨(nodeAt t i).cols, (nodeAt t i).rows, cellsOf t ks⟩

/-- How many nodes a node has below it, and itself. -/
def cntF (t : List Node) : Nat → Nat → Int
  | 0, _ => 0
  | f + 1, i => 1 + sumI ((kids t i).map (cntF t f))
def cnt (t : List Node) (i : Nat) : Int := cntF t t.length i
theorem cntF_fuel {t : List Node} (h : TreeK t) : ∀ (f g i : Nat), i < t.length → t.length - i ≤ f → t.length - i ≤ g → cntF t f i = cntF t g i := by
  intro f
  induction f with
  | zero => intro g i hi h1; omega
  | succ f ih =>
    intro g i hi h1 h2
    cases g with
    | zero => omega
    | succ g =>
      simp only [cntF]
      rw [List.map_congr_left fun k hk => ?_]
      obtain ⟨a, b, _⟩ := h.kid hk
      exact ih g k a (by omega) (by omega)
theorem cnt_eq {t : List Node} (h : TreeK t) {i : Nat} (hi : i < t.length) : cnt t i = 1 + sumI ((kids t i).map (cnt t)) := by
  unfold cnt
  obtain ⟨n, hn⟩ : ∃ n, t.length = n + 1 := ⟨t.length - 1, by omega⟩
  rw [hn]
  simp only [cntF]
  rw [List.map_congr_left fun k hk => ?_]
  obtain ⟨a, b, _⟩ := h.kid hk
  exact cntF_fuel h n (n + 1) k a (by omega) (by omega)
theorem cnt_pos {t : List Node} (h : TreeK t) : ∀ m i : Nat, t.length - i ≤ m → i < t.length → 1 ≤ cnt t i := by
  intro m
  induction m with
  | zero => intro i h1 h2; omega
  | succ m ih =>
    intro i h1 h2
    rw [cnt_eq h h2]
    have : 0 ≤ sumI ((kids t i).map (cnt t)) := sumI_nonneg fun x hx => by
      obtain ⟨k, hk, rfl⟩ := List.mem_map.1 hx
      obtain ⟨a, b, _⟩ := h.kid hk
      have := ih k (by omega) a
      omega
    omega
theorem sumI_filter {α : Type} {p : α → Bool} {f : α → Int} : ∀ xs : List α, sumI ((xs.filter p).map f) = sumI (xs.map fun x => if p x = true then f x else 0)
  | [] => rfl
  | x :: xs => by
    have := sumI_filter (p := p) (f := f) xs
    rw [List.filter_cons]
    split
    · rename_i hp
      simp only [List.map_cons, sumI, this, hp, if_true]
    · rename_i hp
      simp only [List.map_cons, sumI, this, hp]
      simp
theorem sumI_one {f : Nat → Int} {m : Nat} : ∀ n : Nat, sumI ((List.range n).map fun j => if j = m then f j else 0) = if m < n then f m else 0
  | 0 => by simp [sumI]
  | n + 1 => by
    have := sumI_one (f := f) (m := m) n
    rw [List.range_succ, List.map_append, sumI_app, this]
    simp only [List.map_cons, List.map_nil, sumI]
    by_cases h1 : n = m
    · subst h1
      rw [if_neg (by omega), if_pos rfl, if_pos (by omega)]; omega
    · rw [if_neg h1]
      by_cases h2 : m < n
      · rw [if_pos h2, if_pos (by omega)]; omega
      · rw [if_neg h2, if_neg (by omega)]; omega
theorem cnt_all {t : List Node} (h : TreeK t) : ∀ d m : Nat, m + d = t.length → sumI ((List.range t.length).map fun j => if m ≤ j ∧ (nodeAt t j).parent < (m : Int) then cnt t j else 0) = (t.length : Int) - m := by
  intro d
  induction d with
  | zero =>
    intro m hm
    have : sumI ((List.range t.length).map fun j => if m ≤ j ∧ (nodeAt t j).parent < (m : Int) then cnt t j else 0) = sumI ((List.range t.length).map fun _ => (0 : Int)) := by
      rw [List.map_congr_left fun j hj => ?_]
      rw [if_neg]
      have := List.mem_range.1 hj
      omega
    rw [this, sumI_zeros]; omega
  | succ d ih =>
    intro m hm
    have hml : m < t.length := by omega
    have e1 := ih (m + 1) (by omega)
    have e2 := sumI_one (f := cnt t) (m := m) t.length
    rw [if_pos hml] at e2
    have e3 := cnt_eq h hml
    rw [kids, kidsTo, sumI_filter] at e3
    have e4 := sumI_maps (xs := List.range t.length) (f := fun j => if m + 1 ≤ j ∧ (nodeAt t j).parent < ((m + 1 : Nat) : Int) then cnt t j else 0) (g := fun j => if j = m then cnt t j else 0)
      (h := fun j => (if m ≤ j ∧ (nodeAt t j).parent < (m : Int) then cnt t j else 0) + (if isKid t m j = true then cnt t j else 0)) (by
      intro j hj
      have hj := List.mem_range.1 hj
      simp only [isKid, decide_eq_true_eq, nodeAt_eq hj]
      have hp : t[j].parent < (j : Int) := by
        by_cases h0 : j = 0
        · subst h0; have := h.root hj; omega
        · have := h.up j hj (by omega); omega
      by_cases c1 : j = m
      · subst c1
        rw [if_neg (by omega), if_pos rfl, if_pos (by omega), if_neg (by omega)]; omega
      · rw [if_neg c1]
        by_cases c2 : m + 1 ≤ j ∧ t[j].parent < ((m + 1 : Nat) : Int)
        · rw [if_pos c2]
          by_cases c3 : t[j].parent = (m : Int)
          · rw [if_neg (by omega), if_pos c3]; omega
          · rw [if_pos (by omega), if_neg c3]
        · rw [if_neg c2, if_neg (by omega), if_neg (by omega)])
    have e5 := sumI_maps (xs := List.range t.length) (f := fun j => if m ≤ j ∧ (nodeAt t j).parent < (m : Int) then cnt t j else 0) (g := fun j => if isKid t m j = true then cnt t j else 0) (h := fun j => (if m ≤ j ∧ (nodeAt t j).parent < (m : Int) then cnt t j else 0) + (if isKid t m j = true then cnt t j else 0)) (fun _ _ => rfl)
    omega
theorem cnt_le {t : List Node} (h : TreeK t) {i : Nat} (hi : i < t.length) : cnt t i ≤ (t.length : Int) - i := by
  have e1 := cnt_all h (t.length - (i + 1)) (i + 1) (by omega)
  have e3 := cnt_eq h hi
  rw [kids, kidsTo, sumI_filter] at e3
  have := sumI_mono (xs := List.range t.length) (f := fun j => if isKid t i j = true then cnt t j else 0) (g := fun j => if i + 1 ≤ j ∧ (nodeAt t j).parent < ((i + 1 : Nat) : Int) then cnt t j else 0) (by
    intro j hj
    have hj := List.mem_range.1 hj
    have h1 := cnt_pos h _ j (Nat.le_refl _) hj
    simp only [isKid, decide_eq_true_eq, nodeAt_eq hj]
    by_cases c : t[j].parent = (i : Int)
    · rw [if_pos c, if_pos]
      · omega
      · have : (j ∈ kids t i) := mem_kids.2 ⟨hj, by rw [nodeAt_eq hj]; exact c⟩
        obtain ⟨_, b, _⟩ := h.kid this
        omega
    · rw [if_neg c]
      split <;> omega)
  omega

theorem nodeOk_iff {n : Node} (h : nodeOk n = true) : (0 ≤ n.w ∧ n.w ≤ 30 ∧ 0 ≤ n.h ∧ n.h ≤ 30 ∧ 0 ≤ n.kind ∧ n.kind ≤ 2) ∧ validPack n.pack = true ∧ (n.pack.w = 0 ∧ n.pack.h = 0) ∧ validPlace n.place = true ∧ (n.cell.w = 0 ∧ n.cell.h = 0) ∧
    (n.kind = 1 → linesOk n.cols = true ∧ linesOk n.rows = true) ∧ (n.kind ≠ 1 → n.cols = [] ∧ n.rows = []) := by
  simp only [nodeOk, Bool.and_eq_true, decide_eq_true_eq] at h
  obtain ⟨⟨⟨⟨⟨a, b⟩, c⟩, d⟩, e⟩, f⟩ := h
  refine ⟨a, b, c, d, e, fun hk => ?_, fun hk => ?_⟩
  · rw [if_pos hk] at f
    simpa using f
  · rw [if_neg hk] at f
    simpa [List.length_eq_zero_iff] using f

/-- What nodes ask for is no more than so much. -/
def WishB (t : List Node) (k : Nat) : Prop := 0 ≤ (wish t k).1 ∧ (wish t k).1 + 20 ≤ 170 * cnt t k ∧ 0 ≤ (wish t k).2 ∧ (wish t k).2 + 20 ≤ 170 * cnt t k
theorem packOf_ok {t : List Node} (h : TreeK t) {k : Nat} (hk : k < t.length) {s : Int × Int} (hs : 0 ≤ s.1 ∧ s.1 ≤ 1680 ∧ 0 ≤ s.2 ∧ s.2 ≤ 1680) : packB (packOf (nodeAt t k) s) = true := by
  rw [nodeAt_eq hk]
  have := validPack_iff.1 (nodeOk_iff (h.ok k hk)).2.1
  refine packB_iff.2 ?_
  simp only [packOf]
  omega
theorem cellOf_ok {t : List Node} (h : TreeK t) {i k : Nat} (hi : i < t.length) (hk : k ∈ kids t i) (hkd : (nodeAt t i).kind = 1) {s : Int × Int} (hs : 0 ≤ s.1 ∧ s.1 ≤ 1680 ∧ 0 ≤ s.2 ∧ s.2 ≤ 1680) (c : Cell) (hc : c = cellOf (nodeAt t k) s) :
    (0 ≤ c.w ∧ c.w ≤ 1680 ∧ 0 ≤ c.h ∧ c.h ≤ 1680) ∧ (0 ≤ c.col ∧ c.col ≤ ((nodeAt t i).cols.length : Int) - 1 ∧ 1 ≤ c.manyCols ∧ c.manyCols ≤ (nodeAt t i).cols.length - c.col ∧ 0 ≤ c.row ∧ c.row ≤ ((nodeAt t i).rows.length : Int) - 1 ∧ 1 ≤ c.manyRows ∧ c.manyRows ≤ (nodeAt t i).rows.length - c.row ∧ 0 ≤ c.stick ∧ c.stick ≤ 15 ∧ 0 ≤ c.padX ∧ c.padX ≤ 10 ∧ 0 ≤ c.padY ∧ c.padY ≤ 10) := by
  obtain ⟨h1, h2, h3⟩ := h.kid hk
  rw [nodeAt_eq hi] at hkd ⊢
  have hl := h.lie k h1 i hi (by omega) h3 hkd
  rw [nodeAt_eq h1] at hc
  subst hc
  simp only [lies, decide_eq_true_eq] at hl
  refine ⟨hs, ?_⟩
  simp only [cellOf]
  omega
theorem gridOf_ok {t : List Node} (h : TreeK t) {i : Nat} (hi : i < t.length) (hkd : (nodeAt t i).kind = 1) {f : Nat → Int × Int} (hb : ∀ k ∈ kids t i, 0 ≤ (f k).1 ∧ (f k).1 ≤ 1680 ∧ 0 ≤ (f k).2 ∧ (f k).2 ≤ 1680) : GOk ⟨(nodeAt t i).cols, (nodeAt t i).rows, (kids t i).map fun k => cellOf (nodeAt t k) (f k)⟩ := by
  have hn := (nodeOk_iff (h.ok i hi)).2.2.2.2.2.1 (by rw [← nodeAt_eq hi]; exact hkd)
  refine ⟨by rw [nodeAt_eq hi]; exact linesOk_iff hn.1, by rw [nodeAt_eq hi]; exact linesOk_iff hn.2, ?_, ?_⟩
  · dsimp only
    rw [List.length_map]
    have := kids_len t i t.length
    have := h.hi
    unfold kids; omega
  · intro c hc
    obtain ⟨k, hk, rfl⟩ := List.mem_map.1 hc
    have := cellOf_ok h hi hk hkd (hb k hk) _ rfl
    refine ⟨?_, this.2⟩
    omega
theorem wish_bd {t : List Node} (h : TreeK t) : ∀ m i : Nat, t.length - i ≤ m → i < t.length → WishB t i := by
  intro m
  induction m with
  | zero => intro i h1 h2; omega
  | succ m ih =>
    intro i h1 h2
    have hk : ∀ k ∈ kids t i, k < t.length ∧ WishB t k ∧ 1 ≤ cnt t k ∧ cnt t k ≤ 10 := fun k hk => by
      obtain ⟨a, b, _⟩ := h.kid hk
      have := cnt_le h a
      have := h.hi
      exact ⟨a, ih k (by omega) a, cnt_pos h _ k (Nat.le_refl _) a, by omega⟩
    have hb : ∀ k ∈ kids t i, 0 ≤ (wish t k).1 ∧ (wish t k).1 ≤ 1680 ∧ 0 ≤ (wish t k).2 ∧ (wish t k).2 ≤ 1680 := fun k hk' => by
      obtain ⟨a, ⟨b1, b2, b3, b4⟩, c, d⟩ := hk k hk'
      omega
    have hc := cnt_eq h h2
    have hn := (nodeOk_iff (h.ok i h2)).1
    rw [← nodeAt_eq h2] at hn
    have hs0 : 0 ≤ sumI ((kids t i).map (cnt t)) := sumI_nonneg fun x hx => by
      obtain ⟨k, hk', rfl⟩ := List.mem_map.1 hx
      have := (hk k hk').2.2.1; omega
    have hmul : sumI ((kids t i).map fun k => 170 * cnt t k) = 170 * sumI ((kids t i).map (cnt t)) := by
      generalize kids t i = ks
      induction ks with
      | nil => rfl
      | cons x xs ih => simp only [List.map_cons, sumI, ih]; omega
    unfold WishB
    rw [wish_eq h h2]
    unfold wishOf
    split
    · dsimp only; omega
    · split
      · have hall : ((kids t i).map fun k => packOf (nodeAt t k) (wish t k)).all packB = true := by
          rw [List.all_map, List.all_eq_true]
          intro k hk'
          exact packOf_ok h (hk k hk').1 (hb k hk')
        have h3 := preqs_sum hall
        have h4 := preqs_bd hall
        rw [List.map_map, List.map_map] at h3
        have hvp : ∀ k ∈ kids t i, validPack (nodeAt t k).pack = true := fun k hk' => by
          rw [nodeAt_eq (hk k hk').1]; exact (nodeOk_iff (h.ok k (hk k hk').1)).2.1
        have m1 : sumI ((kids t i).map (needW ∘ fun k => packOf (nodeAt t k) (wish t k))) ≤ sumI ((kids t i).map fun k => 170 * cnt t k) := sumI_mono fun k hk' => by
          have := validPack_iff.1 (hvp k hk')
          have := (hk k hk').2.1
          unfold WishB at this
          simp only [Function.comp, needW, packOf]; omega
        have m2 : sumI ((kids t i).map (needH ∘ fun k => packOf (nodeAt t k) (wish t k))) ≤ sumI ((kids t i).map fun k => 170 * cnt t k) := sumI_mono fun k hk' => by
          have := validPack_iff.1 (hvp k hk')
          have := (hk k hk').2.1
          unfold WishB at this
          simp only [Function.comp, needH, packOf]; omega
        omega
      · rename_i hn1 hn2
        have hkd : (nodeAt t i).kind = 1 := by
          have : (nodeAt t i).kind ≠ 2 := fun e => hn1 (.inr (.inr e))
          omega
        have hg := gridOf_ok h h2 hkd hb
        have r1 := requests_most hg.cols hg.cspans
        have r2 := requests_most hg.rows hg.rspans
        have l1 := requests_least hg.cols hg.cspans
        have l2 := requests_least hg.rows hg.rspans
        simp only [colSpans, rowSpans, List.map_map] at r1 r2
        have hcl := fun k hk' => cellOf_ok h h2 (k := k) hk' hkd (hb k hk') _ rfl
        have m1 : sumI ((kids t i).map (Span.need ∘ colSpan ∘ fun k => cellOf (nodeAt t k) (wish t k))) ≤ sumI ((kids t i).map fun k => 170 * cnt t k) := sumI_mono fun k hk' => by
          have := hcl k hk'
          have := (hk k hk').2.1
          unfold WishB at this
          simp only [Function.comp, colSpan, cellOf] at *; omega
        have m2 : sumI ((kids t i).map (Span.need ∘ rowSpan ∘ fun k => cellOf (nodeAt t k) (wish t k))) ≤ sumI ((kids t i).map fun k => 170 * cnt t k) := sumI_mono fun k hk' => by
          have := hcl k hk'
          have := (hk k hk').2.1
          unfold WishB at this
          simp only [Function.comp, rowSpan, cellOf] at *; omega
        unfold gridReq
        dsimp only [colSpans, rowSpans] at r1 r2 l1 l2 ⊢
        simp only [List.map_map] at l1 l2 ⊢
        omega
theorem wish_le {t : List Node} (h : TreeK t) {i : Nat} (hi : i < t.length) : 0 ≤ (wish t i).1 ∧ (wish t i).1 ≤ 1680 ∧ 0 ≤ (wish t i).2 ∧ (wish t i).2 ≤ 1680 := by
  have h1 := wish_bd h _ i (Nat.le_refl _) hi
  have h2 := cnt_le h hi
  have := h.hi
  unfold WishB at h1
  omega
end Go.Proofs.YtpfhnhhkfobjnaaGreat

namespace Go.Proofs.YtpfhnhhkfobjnaaGreat
open Go.Fw
attribute [local irreducible] Go.Fw.aops Go.Fw.arun

theorem c_spreadS (n : Int) (ws : List Int) (hn : 0 ≤ n ∧ n ≤ 2^27) (hw : WOk ws) : ACon Tryz.prog 148 [.d (.int .i64 n), .d (.lst (ws.map encN))] [] (ONums (spread n ws)) := by
  have hlo := hw.lo; have hhi := hw.hi
  have hsum := hw.nums.sum ws.length (Nat.le_refl _)
  rw [List.take_length] at hsum
  have cs := c_total ws hw.nums
  have hfb := floors_bd hw hn
  have hfl := floors_len (n := n) (ws := ws)
  by_cases h0 : sumI ws = 0
  · refine ACon.introW tok (nt := 71) Tryz.func148 rfl rfl rfl (by kernel_rfl) rfl ?_
    have hz : (List.replicate ws.length [D.int .i64 0])[((ws.length : Int) - 1).toNat]? = some [D.int .i64 0] := by rw [List.getElem?_replicate, if_pos (by omega)]
    have he : (spread n ws).map encN = (List.replicate ws.length [D.int .i64 0]).set ((ws.length : Int) - 1).toNat [D.int .i64 n] := by
      rw [spread, if_pos h0, show ((ws.length : Int) - 1).toNat = ws.length - 1 by omega, List.map_set]
      congr 1
      rw [List.map_map]
      exact List.map_const' ..
    have hsl : (spread n ws).length = ws.length := by rw [spread, if_pos h0]; simp
    repeat' (first | ((with_reducible apply xsim); (first | ((with_reducible apply xlenM); exact rfl; exact rfl) | ((with_reducible apply xo); exact rfl) | with_reducible apply xend | ((with_reducible apply xidxM); exact rfl; exact rfl; exact rfl; omega; omega; exact rfl) | ((with_reducible apply xstA); exact rfl; exact rfl; exact rfl; exact rfl; (first | exact hz); exact rfl; exact rfl; exact rfl; exact rfl; (try simp only [List.set_cons_zero, List.set_cons_succ, List.length_map, List.length_replicate])) | ((with_reducible apply xcallIs); exact rfl; exact rfl; exact cs; exact rfl) | simp -implicitDefEqProofs only [go_sem, List.length_map, List.length_replicate])) | ((with_reducible apply xaw); (first | ((with_reducible apply xstepS); refine AW.step tok rfl ?_) | ((with_reducible apply xstep); refine AW.region tok rfl ?_) | with_reducible (first | refine AW.seq ?_ | refine AW.ret ?_) | ((with_reducible apply xcond); exact rfl))) | with_reducible (first | refine xthen ?_ | refine xthen_r ?_) | (with_reducible intro hc; (try simp only [hcL, reduceCtorEq, List.length_map, List.length_replicate] at hc); (try (exfalso; omega))) | with_reducible (first | exact trivial | refine And.intro ?_ ?_ | exact rfl) | exact Eq.refl true | (refine inR_i64.mpr ?_; first | omega | (simp only [List.length_map, List.length_map, List.length_replicate]; omega)) | omega)
    (refine xfinOwn [0] (by first | exact .inl rfl | exact .inr rfl) rfl (by repeat' (first | exact trivial | exact rfl | refine And.intro ?_ ?_)) (by decide) rfl ?_ ?_ <;> simp -implicitDefEqProofs only [go_sem, he, hsl])
  · have he : spread n ws = (bumpTo ws (floors n ws) (n - sumI (floors n ws)) ws.length).1 := by rw [spread, if_neg h0]
    have hlb := left_bd hw hn.1 h0
    refine ACon.introW tok (nt := 71) Tryz.func148 rfl rfl rfl (by kernel_rfl) rfl ?_
    repeat' (first | ((with_reducible apply xsim); (first | ((with_reducible apply xlenM); exact rfl; exact rfl) | ((with_reducible apply xo); exact rfl) | with_reducible apply xend | ((with_reducible apply xcallIs); exact rfl; exact rfl; exact cs; exact rfl) | simp -implicitDefEqProofs only [go_sem, List.length_map, List.length_replicate])) | ((with_reducible apply xaw); (first | ((with_reducible apply xstepS); refine AW.step tok rfl ?_) | with_reducible (first | refine AW.seq ?_ | refine AW.block ?_ | refine AW.skip ?_) | ((with_reducible apply xcond); exact rfl))) | with_reducible refine xthen ?_ | (with_reducible intro hc; (try simp only [hcL, reduceCtorEq, List.length_map, List.length_replicate] at hc); (try (exfalso; omega))) | with_reducible (first | exact trivial | refine And.intro ?_ ?_ | exact rfl) | omega)
    refine AW.loop (S := fun k : Nat => ⟨[(0, .d (.int .i64 n)), (1, .d (.lst (ws.map encN))), (5, .msl 0 1 0 ws.length), (6, .d (.int .i64 (sumI ws))), (7, .d (.int .i64 (n - sumI ((floors n ws).take k)))), (8, .d (.int .i64 k))], [.arr 1 (fillRows encN zN (floors n ws) k)], 71, .p 0⟩)
      (Pre := fun k => k ≤ ws.length) (μ := fun k => ws.length - k) 0 (Nat.zero_le _) ?_ ?_
    · (refine xwk (π := [0]) (by decide) rfl ?_ ?_; (first | simp -implicitDefEqProofs only [go_sem, fillRows_zero, zN, hfl, List.take_zero, sumI, Int.sub_zero]); repeat' (first | exact renE_n | ((with_reducible apply renE_c); exact rfl; focus (first | (simp -implicitDefEqProofs only [go_sem, fillRows_zero, zN, hfl, List.take_zero, sumI, Int.sub_zero]; done)))))
    · intro k hk
      have hfs := hfb.sum k (by omega)
      by_cases hlt : k < ws.length
      · have hrow := at_map (f := encN) hlt
        have hx := hw.w _ (List.getElem_mem hlt)
        have m1 : 0 ≤ n * ws[k] := Int.mul_nonneg hn.1 hx.1
        have m2 : n * ws[k] ≤ 2^27 * 5 := Int.mul_le_mul hn.2 hx.2 hx.1 (by omega)
        have d1 : 0 ≤ (n * ws[k]).tdiv (sumI ws) := Int.tdiv_nonneg m1 hw.sum
        have d2 : (n * ws[k]).tdiv (sumI ws) ≤ n * ws[k] := Int.tdiv_le_self _ m1
        have hz := fillRows_at (enc := encN) (z := zN) (show k < (floors n ws).length by omega)
        have hset := fillRows_set (enc := encN) (z := zN) (show k < (floors n ws).length by omega)
        have hlen : k < (fillRows encN zN (floors n ws) k).length := by rw [fillRows_len (by omega)]; omega
        have hst := sumI_take (xs := floors n ws) (k := k) (by omega)
        rw [floors_at hlt] at hset hst
        simp only [encN] at hset
        repeat' (first | ((with_reducible apply xsim); (first | ((with_reducible apply xo); exact rfl) | with_reducible apply xend | ((with_reducible apply xidxL); exact rfl; exact rfl; exact rfl; (first | exact hrow | exact hz | exact (List.getElem?_set_self (by simpa [idxAdd] using hlen))); omega; first | exact rfl | simp only [hsz]) | ((with_reducible apply xidxM); exact rfl; exact rfl; exact rfl; omega; omega; exact rfl) | ((with_reducible apply xldA); exact rfl; exact rfl; exact rfl; (first | exact hrow | exact hz | exact (List.getElem?_set_self (by simpa [idxAdd] using hlen))); exact rfl) | ((with_reducible apply xstA); exact rfl; exact rfl; exact rfl; exact rfl; (first | exact hrow | exact hz | exact (List.getElem?_set_self (by simpa [idxAdd] using hlen))); exact rfl; exact rfl; exact rfl; exact rfl; (try simp only [List.set_cons_zero, List.set_cons_succ, List.length_map])))) | ((with_reducible apply xaw); (first | ((with_reducible apply xstepS); refine AW.step tok rfl ?_) | ((with_reducible apply xstep); refine AW.region tok rfl ?_) | with_reducible (first | refine AW.seq ?_ | refine AW.block ?_ | refine AW.skip ?_) | ((with_reducible apply xcond); exact rfl))) | with_reducible (first | refine xthen ?_ | refine xblock ?_) | (with_reducible intro hc; (try simp only [hcL, reduceCtorEq, List.length_map] at hc); (try (exfalso; omega))) | with_reducible (first | exact trivial | refine And.intro ?_ ?_ | exact rfl) | exact Eq.refl true | (refine inR_i64.mpr ?_; first | omega | (simp only [List.length_map, List.length_map]; omega)) | omega)
        refine round_end (k+1) hlt (by omega) (by (refine xwk (π := [0]) (by decide) rfl ?_ ?_; (first | simp -implicitDefEqProofs only [go_sem, hset, hst, Int.sub_sub]); repeat' (first | exact renE_n | ((with_reducible apply renE_c); exact rfl; focus (first | (simp -implicitDefEqProofs only [go_sem, hset, hst, Int.sub_sub]; done))))))
      · have hk' : k = ws.length := by omega
        subst hk'
        have hall := fillRows_all (enc := encN) (z := zN) (xs := floors n ws)
        rw [hfl] at hall
        have hta : (floors n ws).take ws.length = floors n ws := by rw [← hfl, List.take_length]
        rw [hall, hta]
        rw [hta] at hfs
        have hbl := fun k hk => bump_left (ws := ws) (bs := floors n ws) (m := n - sumI (floors n ws)) hfl hlb.1 k hk
        have hdn := fun k => bumpTo_done (ws := ws) (bs := floors n ws) (m := n - sumI (floors n ws)) (k := k)
        repeat' (first | ((with_reducible apply xsim); (first | ((with_reducible apply xo); exact rfl) | with_reducible apply xend)) | ((with_reducible apply xaw); (first | ((with_reducible apply xstepS); refine AW.step tok rfl ?_) | with_reducible (first | refine AW.seq ?_ | refine AW.block ?_ | refine AW.exit ?_) | ((with_reducible apply xcond); exact rfl))) | with_reducible (first | refine xthen ?_ | refine xthen_e ?_ | refine xblock_e ?_ | refine xround_e ?_) | (with_reducible intro hc; (try simp only [hcL, reduceCtorEq, List.length_map, hfl] at hc); (try (exfalso; omega))) | with_reducible (first | exact trivial | refine And.intro ?_ ?_ | exact rfl) | exact Eq.refl true)
        generalize hB : bumpTo ws (floors n ws) (n - sumI (floors n ws)) = B at *
        have hBl : ∀ k, (B k).1.length = ws.length := fun k => by rw [← hB, bumpTo_len, hfl]
        have hBm : ∀ k : Nat, (B k).2 ≤ n - sumI (floors n ws) ∧ n - sumI (floors n ws) - k ≤ (B k).2 := fun k => by rw [← hB]; exact bumpTo_m k
        have hB0 : B 0 = (floors n ws, n - sumI (floors n ws)) := by rw [← hB]; rfl
        have hBs : ∀ k (h : k < ws.length), B (k + 1) = if ws[k] ≠ 0 ∧ 0 < (B k).2 then ((B k).1.set k ((floors n ws)[k]'(by omega) + 1), (B k).2 - 1) else B k := fun k h => by
          rw [← hB]; exact bumpTo_succ h _
        have hbL := hbl ws.length (Nat.le_refl _)
        rw [List.take_length] at hbL
        refine AW.loop (S := fun k : Nat => ⟨[(1, .d (.lst (ws.map encN))), (5, .msl 0 1 0 ws.length), (7, .d (.int .i64 (B k).2)), (9, .d (.int .i64 k))], [.arr 1 ((B k).1.map encN)], 71, .p 0⟩)
          (Pre := fun k => k ≤ ws.length) (μ := fun k => ws.length - k) 0 (Nat.zero_le _) ?_ ?_
        · (refine xwk (π := [0]) (by decide) rfl ?_ ?_; (first | simp -implicitDefEqProofs only [go_sem, hB0]); repeat' (first | exact renE_n | ((with_reducible apply renE_c); exact rfl; focus (first | (simp -implicitDefEqProofs only [go_sem, hB0]; done)))))
        · intro k hk
          have hm := hBm k
          by_cases hlt : 0 < (B k).2
          · have hlt' : k < ws.length := by
              refine Decidable.byContradiction fun hc => ?_
              obtain rfl : k = ws.length := by omega
              omega
            have hrow := at_map (f := encN) hlt'
            have hx := hw.w _ (List.getElem_mem hlt')
            have hf := hfb.at (show k < (floors n ws).length by omega)
            have hz : ((B k).1.map encN)[k]? = some [.int .i64 ((floors n ws)[k]'(by omega))] := by
              rw [List.getElem?_map, ← hB, bumpTo_at k k (Nat.le_refl _), List.getElem?_eq_getElem (show k < (floors n ws).length by omega)]; rfl
            repeat' (first | ((with_reducible apply xsim); (first | ((with_reducible apply xo); exact rfl) | with_reducible apply xend | ((with_reducible apply xidxL); exact rfl; exact rfl; exact rfl; (first | exact hrow | exact hz); omega; first | exact rfl | simp only [hsz]) | ((with_reducible apply xidxM); exact rfl; exact rfl; exact rfl; omega; omega; exact rfl) | ((with_reducible apply xldA); exact rfl; exact rfl; exact rfl; (first | exact hrow | exact hz); exact rfl) | ((with_reducible apply xstA); exact rfl; exact rfl; exact rfl; exact rfl; (first | exact hrow | exact hz); exact rfl; exact rfl; exact rfl; exact rfl; (try simp only [List.set_cons_zero, List.set_cons_succ, List.length_map])))) | ((with_reducible apply xaw); (first | ((with_reducible apply xstepS); refine AW.step tok rfl ?_) | ((with_reducible apply xstep); refine AW.region tok rfl ?_) | with_reducible (first | refine AW.seq ?_ | refine AW.block ?_ | refine AW.skip ?_) | ((with_reducible apply xcond); exact rfl))) | with_reducible (first | refine xthen ?_ | refine xblock ?_) | (with_reducible intro hc; (try simp only [hcL, reduceCtorEq, List.length_map] at hc); (try (exfalso; omega))) | with_reducible (first | exact trivial | refine And.intro ?_ ?_ | exact rfl) | (refine inR_i64.mpr ?_; first | omega | (simp only [List.length_map, List.length_map]; omega)))
            all_goals have hb := hBs k hlt'
            · rw [if_pos (by omega)] at hb
              refine round_end (k+1) (by omega) (by omega) (by (refine xwk (π := [0]) (by decide) rfl ?_ ?_; (first | simp -implicitDefEqProofs only [go_sem, hb, List.map_set, encN]); repeat' (first | exact renE_n | ((with_reducible apply renE_c); exact rfl; focus (first | (simp -implicitDefEqProofs only [go_sem, hb, List.map_set, encN]; done))))))
            all_goals (rw [if_neg (by omega)] at hb; refine round_end (k+1) (by omega) (by omega) (by (refine xwk (π := [0]) (by decide) rfl ?_ ?_; (first | simp -implicitDefEqProofs only [go_sem, hb]); repeat' (first | exact renE_n | ((with_reducible apply renE_c); exact rfl; focus (first | (simp -implicitDefEqProofs only [go_sem, hb]; done)))))))
          · have hfin := hdn k (by omega) ws.length hk
            rw [hfin] at he
            repeat' (first | ((with_reducible apply xsim); (first | ((with_reducible apply xo); exact rfl) | with_reducible apply xend)) | ((with_reducible apply xaw); (first | ((with_reducible apply xstepS); refine AW.step tok rfl ?_) | with_reducible (first | refine AW.seq ?_ | refine AW.ret ?_ | refine AW.exit ?_) | ((with_reducible apply xcond); exact rfl))) | with_reducible (first | refine xthen ?_ | refine xthen_e ?_ | refine xblock_e ?_ | refine xround_e ?_) | (with_reducible intro hc; (try simp only [hcL, reduceCtorEq, List.length_map] at hc); (try (exfalso; omega))) | with_reducible (first | exact trivial | refine And.intro ?_ ?_ | exact rfl))
            (refine xfinOwn [0] (by first | exact .inl rfl | exact .inr rfl) rfl (by repeat' (first | exact trivial | exact rfl | refine And.intro ?_ ?_)) (by decide) rfl ?_ ?_ <;> simp -implicitDefEqProofs only [go_sem, he, hBl])

theorem weights_len (ls : List Line) : (weights ls).length = ls.length := by simp [weights]
theorem mins_len (ls : List Line) : (mins ls).length = ls.length := by simp [mins]
theorem weights_take {ls : List Line} {k : Nat} (h : k < ls.length) : (weights ls).take (k + 1) = (weights ls).take k ++ [ls[k].weight] := by
  rw [List.take_succ_eq_append_getElem (by rw [weights_len]; exact h)]; simp [weights]
theorem mins_take {ls : List Line} {k : Nat} (h : k < ls.length) : (mins ls).take (k + 1) = (mins ls).take k ++ [ls[k].min] := by
  rw [List.take_succ_eq_append_getElem (by rw [mins_len]; exact h)]; simp [mins]

theorem c_weightsI (ls : List Line) (hl : ls.length ≤ 5) : ACon Tryz.prog 140 [.d (.lst (ls.map encLine))] [] (Is (.d (.lst ((weights ls).map encN)))) := by
  have hwl := weights_len ls
  refine ACon.introW tok (nt := 19) Tryz.func140 rfl rfl rfl (by kernel_rfl) rfl ?_
  repeat' (first | ((with_reducible apply xsim); (first | ((with_reducible apply xlenM); exact rfl; exact rfl) | ((with_reducible apply xo); exact rfl) | with_reducible apply xend)) | ((with_reducible apply xaw); (first | ((with_reducible apply xstepS); refine AW.step tok rfl ?_) | with_reducible (first | refine AW.seq ?_ | refine AW.block ?_))) | with_reducible exact trivial)
  refine AW.own 3 1 rfl ?_
  refine AW.loop (S := fun k : Nat => ⟨[(3, .msl 0 1 0 k), (6, .d (.lst (ls.map encLine))), (7, .d (.int .i64 ls.length)), (8, .d (.int .i64 k))], [.arr 1 (((weights ls).take k).map encN)], 19, .p 0⟩)
    (Pre := fun k => k ≤ ls.length) (μ := fun k => ls.length - k) 0 (Nat.zero_le _) ?_ ?_
  · (refine xwk (π := [0]) (by decide) rfl ?_ ?_; (first | simp -implicitDefEqProofs only [go_sem, List.take_zero]); repeat' (first | exact renE_n | ((with_reducible apply renE_c); exact rfl; focus (first | (simp -implicitDefEqProofs only [go_sem, List.take_zero]; done)))))
  · intro k hk
    have htl : ((weights ls).take k).length = k := by simp [hwl]; omega
    by_cases hlt : k < ls.length
    · have hrow := at_map (f := encLine) hlt
      have hsu := weights_take hlt
      repeat' (first | ((with_reducible apply xsim); (first | ((with_reducible apply xo); exact rfl) | ((with_reducible apply xst); exact rfl) | with_reducible apply xend | ((with_reducible apply xalloc); exact rfl; simp only [bkL, Nat.reduceAdd, Nat.reduceSub]) | ((with_reducible apply xbuild); exact rfl; exact rfl; exact rfl; exact rfl; exact rfl; simp only [bkL, Nat.reduceAdd, Nat.reduceSub]) | ((with_reducible apply xidxL); exact rfl; exact rfl; exact rfl; (first | exact hrow); omega; first | exact rfl | simp only [hsz]) | simp -implicitDefEqProofs only [go_sem, List.length_map, htl])) | ((with_reducible apply xaw); (first | ((with_reducible apply xstepS); refine AW.step tok rfl ?_) | ((with_reducible apply xstep); refine AW.region tok rfl ?_) | with_reducible (first | refine AW.seq ?_ | refine AW.block ?_ | refine AW.skip ?_) | ((with_reducible apply xcond); exact rfl))) | with_reducible refine xthen ?_ | (with_reducible intro hc; (try simp only [hcL, reduceCtorEq, List.length_map, htl] at hc); (try (exfalso; omega))) | with_reducible (first | exact trivial | refine And.intro ?_ ?_ | exact rfl) | exact Eq.refl true | (refine inR_i64.mpr ?_; first | omega | (simp only [List.length_map, List.length_map, htl]; omega)) | omega)
      refine round_end (k+1) hlt (by omega) (by (refine xwk (π := [3]) (by decide) rfl ?_ ?_; (first | simp -implicitDefEqProofs only [go_sem, hsu, List.map_append, encN]); repeat' (first | exact renE_n | ((with_reducible apply renE_c); exact rfl; focus (first | (simp -implicitDefEqProofs only [go_sem, hsu, List.map_append, encN]; done))))))
    · have hk' : k = ls.length := by omega
      subst hk'
      have hta : (weights ls).take ls.length = weights ls := by rw [← hwl, List.take_length]
      repeat' (first | ((with_reducible apply xsim); (first | ((with_reducible apply xo); exact rfl) | with_reducible apply xend)) | ((with_reducible apply xaw); (first | ((with_reducible apply xstepS); refine AW.step tok rfl ?_) | with_reducible (first | refine AW.seq ?_ | refine AW.ret ?_ | refine AW.exit ?_) | ((with_reducible apply xcond); exact rfl))) | with_reducible (first | refine xthen ?_ | refine xthen_e ?_ | refine xblock_e ?_ | refine xround_e ?_) | (with_reducible intro hc; (try simp only [hcL, reduceCtorEq, List.length_map] at hc); (try (exfalso; omega))) | with_reducible (first | exact trivial | refine And.intro ?_ ?_ | exact rfl))
      rw [hta]
      refine xfinW (Weak.freezeA 2 0 1 rfl rfl (by simp [hwl])) ?_
      (refine xfinIs (by first | exact .inl rfl | exact .inr rfl) rfl (by repeat' (first | exact trivial | exact rfl | refine And.intro ?_ ?_)) rfl ?_ rfl; first | with_reducible exact rfl)
theorem c_weightsS (ls : List Line) (hl : ls.length ≤ 5) : ACon Tryz.prog 149 [.d (.lst (ls.map encLine))] [] (Is (.d (.lst ((weights ls).map encN)))) := by
  have hwl := weights_len ls
  refine ACon.introW tok (nt := 21) Tryz.func149 rfl rfl rfl (by kernel_rfl) rfl ?_
  repeat' (first | ((with_reducible apply xsim); (first | ((with_reducible apply xo); exact rfl) | with_reducible apply xend | ((with_reducible apply xbuild); exact rfl; exact rfl; exact rfl; exact rfl; exact rfl; simp only [bkL, Nat.reduceAdd, Nat.reduceSub]))) | ((with_reducible apply xaw); (first | ((with_reducible apply xstepS); refine AW.step tok rfl ?_) | with_reducible (first | refine AW.seq ?_ | refine AW.block ?_))) | with_reducible exact trivial)
  skip
  refine AW.loop (S := fun k : Nat => ⟨[(3, .msl 0 1 0 k), (0, .d (.lst (ls.map encLine))), (4, .d (.int .i64 k))], [.arr 1 (((weights ls).take k).map encN)], 21, .p 0⟩)
    (Pre := fun k => k ≤ ls.length) (μ := fun k => ls.length - k) 0 (Nat.zero_le _) ?_ ?_
  · (refine xwk (π := [0]) (by decide) rfl ?_ ?_; (first | simp -implicitDefEqProofs only [go_sem, List.take_zero]); repeat' (first | exact renE_n | ((with_reducible apply renE_c); exact rfl; focus (first | (simp -implicitDefEqProofs only [go_sem, List.take_zero]; done)))))
  · intro k hk
    have htl : ((weights ls).take k).length = k := by simp [hwl]; omega
    by_cases hlt : k < ls.length
    · have hrow := at_map (f := encLine) hlt
      have hsu := weights_take hlt
      repeat' (first | ((with_reducible apply xsim); (first | ((with_reducible apply xlenM); exact rfl; exact rfl) | ((with_reducible apply xo); exact rfl) | with_reducible apply xend | ((with_reducible apply xbuild); exact rfl; exact rfl; exact rfl; exact rfl; exact rfl; simp only [bkL, Nat.reduceAdd, Nat.reduceSub]) | ((with_reducible apply xidxL); exact rfl; exact rfl; exact rfl; (first | exact hrow); omega; first | exact rfl | simp only [hsz]) | simp -implicitDefEqProofs only [go_sem, List.length_map, htl])) | ((with_reducible apply xaw); (first | ((with_reducible apply xstepS); refine AW.step tok rfl ?_) | ((with_reducible apply xstep); refine AW.region tok rfl ?_) | with_reducible (first | refine AW.seq ?_ | refine AW.block ?_ | refine AW.skip ?_) | ((with_reducible apply xcond); exact rfl))) | with_reducible refine xthen ?_ | (with_reducible intro hc; (try simp only [hcL, reduceCtorEq, List.length_map, htl] at hc); (try (exfalso; omega))) | with_reducible (first | exact trivial | refine And.intro ?_ ?_ | exact rfl) | (refine inR_i64.mpr ?_; first | omega | (simp only [List.length_map, List.length_map, htl]; omega)) | omega)
      refine round_end (k+1) hlt (by omega) (by (refine xwk (π := [2]) (by decide) rfl ?_ ?_; (first | simp -implicitDefEqProofs only [go_sem, hsu, List.map_append, encN]); repeat' (first | exact renE_n | ((with_reducible apply renE_c); exact rfl; focus (first | (simp -implicitDefEqProofs only [go_sem, hsu, List.map_append, encN]; done))))))
    · have hk' : k = ls.length := by omega
      subst hk'
      have hta : (weights ls).take ls.length = weights ls := by rw [← hwl, List.take_length]
      repeat' (first | ((with_reducible apply xsim); (first | ((with_reducible apply xlenM); exact rfl; exact rfl) | ((with_reducible apply xo); exact rfl) | with_reducible apply xend)) | ((with_reducible apply xaw); (first | ((with_reducible apply xstepS); refine AW.step tok rfl ?_) | with_reducible (first | refine AW.seq ?_ | refine AW.ret ?_ | refine AW.exit ?_) | ((with_reducible apply xcond); exact rfl))) | with_reducible (first | refine xthen ?_ | refine xthen_e ?_ | refine xblock_e ?_ | refine xround_e ?_) | (with_reducible intro hc; (try simp only [hcL, reduceCtorEq, List.length_map] at hc); (try (exfalso; omega))) | with_reducible (first | exact trivial | refine And.intro ?_ ?_ | exact rfl))
      rw [hta]
      refine xfinW (Weak.freezeA 2 0 1 rfl rfl (by simp [hwl])) ?_
      (refine xfinIs (by first | exact .inl rfl | exact .inr rfl) rfl (by repeat' (first | exact trivial | exact rfl | refine And.intro ?_ ?_)) rfl ?_ rfl; first | with_reducible exact rfl)
end Go.Proofs.YtpfhnhhkfobjnaaGreat

namespace Go.Proofs.YtpfhnhhkfobjnaaGreat
open Go.Fw
attribute [local irreducible] Go.Fw.aops Go.Fw.arun

theorem c_lineRequestsI (ls : List Line) (ss : List Span) (h : LOk ls) (hs : SOk ss ls.length) : ACon Tryz.prog 119 [.d (.lst (ls.map encLine)), .d (.lst (ss.map encSpan))] [] (ONums (requests ls ss)) := by
  have hlo := h.lo; have hhi := h.hi; have hsh := hs.hi
  have hml := mins_len ls
  refine ACon.introW tok (nt := 86) Tryz.func119 rfl rfl rfl (by kernel_rfl) rfl ?_
  repeat' (first | ((with_reducible apply xsim); (first | ((with_reducible apply xlenM); exact rfl; exact rfl) | ((with_reducible apply xo); exact rfl) | with_reducible apply xend)) | ((with_reducible apply xaw); (first | ((with_reducible apply xstepS); refine AW.step tok rfl ?_) | with_reducible (first | refine AW.seq ?_ | refine AW.block ?_))) | with_reducible exact trivial)
  refine AW.own 5 1 rfl ?_
  refine AW.loop (S := fun k : Nat => ⟨[(0, .d (.lst (ls.map encLine))), (1, .d (.lst (ss.map encSpan))), (5, .msl 0 1 0 k), (15, .d (.lst (ls.map encLine))), (16, .d (.int .i64 ls.length)), (17, .d (.int .i64 k))], [.arr 1 (((mins ls).take k).map encN)], 86, .p 0⟩)
    (Pre := fun k => k ≤ ls.length) (μ := fun k => ls.length - k) 0 (Nat.zero_le _) ?_ ?_
  · (refine xwk (π := [0]) (by decide) rfl ?_ ?_; (first | simp -implicitDefEqProofs only [go_sem, List.take_zero]); repeat' (first | exact renE_n | ((with_reducible apply renE_c); exact rfl; focus (first | (simp -implicitDefEqProofs only [go_sem, List.take_zero]; done)))))
  intro k hk
  have htl : ((mins ls).take k).length = k := by simp [hml]; omega
  by_cases hlt : k < ls.length
  · have hrow := at_map (f := encLine) hlt
    have hsu := mins_take hlt
    repeat' (first | ((with_reducible apply xsim); (first | ((with_reducible apply xo); exact rfl) | ((with_reducible apply xst); exact rfl) | with_reducible apply xend | ((with_reducible apply xalloc); exact rfl; simp only [bkL, Nat.reduceAdd, Nat.reduceSub]) | ((with_reducible apply xbuild); exact rfl; exact rfl; exact rfl; exact rfl; exact rfl; simp only [bkL, Nat.reduceAdd, Nat.reduceSub]) | ((with_reducible apply xidxL); exact rfl; exact rfl; exact rfl; (first | exact hrow); omega; first | exact rfl | simp only [hsz]) | simp -implicitDefEqProofs only [go_sem, List.length_map, htl])) | ((with_reducible apply xaw); (first | ((with_reducible apply xstepS); refine AW.step tok rfl ?_) | ((with_reducible apply xstep); refine AW.region tok rfl ?_) | with_reducible (first | refine AW.seq ?_ | refine AW.block ?_ | refine AW.skip ?_) | ((with_reducible apply xcond); exact rfl))) | with_reducible refine xthen ?_ | (with_reducible intro hc; (try simp only [hcL, reduceCtorEq, List.length_map, htl] at hc); (try (exfalso; omega))) | with_reducible (first | exact trivial | refine And.intro ?_ ?_ | exact rfl) | exact Eq.refl true | (refine inR_i64.mpr ?_; first | omega | (simp only [List.length_map, List.length_map, htl]; omega)) | omega)
    refine round_end (k+1) hlt (by omega) (by (refine xwk (π := [3]) (by decide) rfl ?_ ?_; (first | simp -implicitDefEqProofs only [go_sem, hsu, List.map_append, encN]); repeat' (first | exact renE_n | ((with_reducible apply renE_c); exact rfl; focus (first | (simp -implicitDefEqProofs only [go_sem, hsu, List.map_append, encN]; done))))))
  have hk' : k = ls.length := by omega
  subst hk'
  have hta : (mins ls).take ls.length = mins ls := by rw [← hml, List.take_length]
  rw [hta]
  repeat' (first | ((with_reducible apply xsim); (first | ((with_reducible apply xo); exact rfl) | with_reducible apply xend)) | ((with_reducible apply xaw); (first | ((with_reducible apply xstepS); refine AW.step tok rfl ?_) | with_reducible (first | refine AW.seq ?_ | refine AW.block ?_ | refine AW.exit ?_) | ((with_reducible apply xcond); exact rfl))) | with_reducible (first | refine xthen ?_ | refine xthen_e ?_ | refine xblock_e ?_ | refine xround_e ?_) | (with_reducible intro hc; (try simp only [hcL, reduceCtorEq, List.length_map] at hc); (try (exfalso; omega))) | with_reducible (first | exact trivial | refine And.intro ?_ ?_ | exact rfl))
  refine AW.loop (S := fun j : Nat => ⟨[(0, .d (.lst (ls.map encLine))), (1, .d (.lst (ss.map encSpan))), (5, .msl 0 1 0 ls.length), (8, .d (.int .i64 ((j : Int) + 1)))], [.arr 1 ((reqs ls ss j).map encN)], 86, .p 0⟩)
    (Pre := fun j => j ≤ ls.length) (μ := fun j => ls.length - j) 0 (Nat.zero_le _) ?_ ?_
  · (refine xwk (π := [0]) (by decide) rfl ?_ ?_; (first | simp -implicitDefEqProofs only [go_sem, reqs]); repeat' (first | exact renE_n | ((with_reducible apply renE_c); exact rfl; focus (first | (simp -implicitDefEqProofs only [go_sem, reqs]; done) | (simp -implicitDefEqProofs only [go_sem, reqs]; omega)))))
  intro j hj
  have hjr := reqs_rok h hs j
  by_cases hjl : ¬ j < ls.length
  · have hj' : j = ls.length := by omega
    subst hj'
    have hrl := (requests_rok h hs).len
    repeat' (first | ((with_reducible apply xsim); (first | ((with_reducible apply xlenM); exact rfl; exact rfl) | ((with_reducible apply xo); exact rfl) | with_reducible apply xend)) | ((with_reducible apply xaw); (first | ((with_reducible apply xstepS); refine AW.step tok rfl ?_) | with_reducible (first | refine AW.seq ?_ | refine AW.ret ?_ | refine AW.exit ?_) | ((with_reducible apply xcond); exact rfl))) | with_reducible (first | refine xthen ?_ | refine xthen_e ?_ | refine xblock_e ?_ | refine xround_e ?_) | (with_reducible intro hc; (try simp only [hcL, reduceCtorEq, List.length_map] at hc); (try (exfalso; omega))) | with_reducible (first | exact trivial | refine And.intro ?_ ?_ | exact rfl))
    (refine xfinOwn [0] (by first | exact .inl rfl | exact .inr rfl) rfl (by repeat' (first | exact trivial | exact rfl | refine And.intro ?_ ?_)) (by decide) rfl ?_ ?_ <;> simp -implicitDefEqProofs only [go_sem, requests, hjr.len])
  replace hjl : j < ls.length := by omega
  repeat' (first | ((with_reducible apply xsim); (first | ((with_reducible apply xlenM); exact rfl; exact rfl) | ((with_reducible apply xo); exact rfl) | with_reducible apply xend)) | ((with_reducible apply xaw); (first | ((with_reducible apply xstepS); refine AW.step tok rfl ?_) | with_reducible (first | refine AW.seq ?_ | refine AW.block ?_ | refine AW.skip ?_) | ((with_reducible apply xcond); exact rfl))) | with_reducible refine xthen ?_ | (with_reducible intro hc; (try simp only [hcL, reduceCtorEq, List.length_map] at hc); (try (exfalso; omega))) | with_reducible (first | exact trivial | refine And.intro ?_ ?_ | exact rfl))
  refine AW.loop (S := fun k : Nat => ⟨[(0, .d (.lst (ls.map encLine))), (1, .d (.lst (ss.map encSpan))), (5, .msl 0 1 0 ls.length), (8, .d (.int .i64 ((j : Int) + 1))), (33, .d (.lst (ss.map encSpan))), (34, .d (.int .i64 ss.length)), (35, .d (.int .i64 k))], [.arr 1 ((reqRound ls ss (j + 1) (reqs ls ss j) k).map encN)], 86, .p 0⟩)
    (Pre := fun k => k ≤ ss.length) (μ := fun k => ss.length - k) 0 (Nat.zero_le _) ?_ ?_
  · (refine xwk (π := [0]) (by decide) rfl ?_ ?_; (first | simp -implicitDefEqProofs only [go_sem, reqRound_zero]); repeat' (first | exact renE_n | ((with_reducible apply renE_c); exact rfl; focus (first | (simp -implicitDefEqProofs only [go_sem, reqRound_zero]; done)))))
  intro k hk
  by_cases hkl : ¬ k < ss.length
  · have hk' : k = ss.length := by omega
    subst hk'
    repeat' (first | ((with_reducible apply xsim); (first | ((with_reducible apply xo); exact rfl) | with_reducible apply xend)) | ((with_reducible apply xaw); (first | ((with_reducible apply xstepS); refine AW.step tok rfl ?_) | ((with_reducible apply xstep); refine AW.region tok rfl ?_) | with_reducible (first | refine AW.seq ?_ | refine AW.exit ?_) | ((with_reducible apply xcond); exact rfl))) | with_reducible (first | refine xthen ?_ | refine xthen_e ?_ | refine xblock ?_ | refine xblock_e ?_ | refine xround_e ?_) | (with_reducible intro hc; (try simp only [hcL, reduceCtorEq, List.length_map] at hc); (try (exfalso; omega))) | with_reducible (first | exact trivial | refine And.intro ?_ ?_ | exact rfl) | (refine inR_i64.mpr ?_; first | omega | (simp only [List.length_map, List.length_map]; omega)))
    refine round_end (j+1) (by omega) (by omega) (by (refine xwk (π := [0]) (by decide) rfl ?_ ?_; (first | simp -implicitDefEqProofs only [go_sem, reqs]); repeat' (first | exact renE_n | ((with_reducible apply renE_c); exact rfl; focus (first | (simp -implicitDefEqProofs only [go_sem, reqs]; done))))))
  replace hkl : k < ss.length := by omega
  have hro := round_rok h hs hjr (m := j + 1) k hk
  have hrow := at_map (f := encSpan) hkl
  have hok := hs.ok _ (List.getElem_mem hkl)
  have hsucc := reqRound_succ (ls := ls) (m := j + 1) (out := reqs ls ss j) hkl
  generalize reqRound ls ss (j + 1) (reqs ls ss j) k = out at *
  generalize ss[k] = s at *
  obtain ⟨a, m, d⟩ := s
  dsimp only at hok
  obtain ⟨a, rfl⟩ := Int.eq_ofNat_of_zero_le hok.1
  obtain ⟨m, rfl⟩ := Int.eq_ofNat_of_zero_le (show 0 ≤ m by omega)
  have hol := hro.len
  have hsl : List.take (((a : Int) + m).toNat - a) (List.drop a (out.map encN)) = (slc out a m).map encN := by rw [slc, List.map_take, List.map_drop, show ((a : Int) + m).toNat - a = m by omega]
  have hle : a + (((a : Int) + m).toNat - a) ≤ out.length := by omega
  have ew : List.take (((a : Int) + m).toNat - (a : Int).toNat) (List.drop (a : Int).toNat ls) = slc ls a m := by rw [slc, show ((a : Int) + m).toNat - (a : Int).toNat = m by omega]; simp
  have hnm := hro.slc h.hi (a := a) (m := m)
  have cs := c_sum (slc out a m) hnm
  have cw := c_weightsI (slc ls a m) (by rw [slc_len (by omega)]; omega)
  have hww : weights (slc ls a m) = slc (weights ls) a m := by simp [weights, slc_map]
  rw [hww, ← ew] at cw
  by_cases hmany : ¬ (m : Int) = j + 1
  · rw [reqStep, if_neg (fun hc => hmany hc.1)] at hsucc
    repeat' (first | ((with_reducible apply xsim); (first | ((with_reducible apply xo); exact rfl) | ((with_reducible apply xst); exact rfl) | with_reducible apply xend | ((with_reducible apply xalloc); exact rfl; simp only [bkL, Nat.reduceAdd, Nat.reduceSub]) | ((with_reducible apply xidxL); exact rfl; exact rfl; exact rfl; (first | exact hrow); omega; first | exact rfl | simp only [hsz]))) | ((with_reducible apply xaw); (first | ((with_reducible apply xstepS); refine AW.step tok rfl ?_) | ((with_reducible apply xstep); refine AW.region tok rfl ?_) | with_reducible (first | refine AW.seq ?_ | refine AW.block ?_ | refine AW.skip ?_ | refine AW.exit ?_) | ((with_reducible apply xcond); exact rfl))) | with_reducible (first | refine xthen ?_ | refine xthen_e ?_ | refine xblock_e ?_) | (with_reducible intro hc; (try simp only [hcL, reduceCtorEq, List.length_map] at hc); (try (exfalso; omega))) | with_reducible (first | exact trivial | refine And.intro ?_ ?_ | exact rfl) | exact Eq.refl true | (refine inR_i64.mpr ?_; first | omega | (simp only [List.length_map, List.length_map]; omega)))
    refine round_end (k+1) hkl (by omega) (by (refine xwk (π := [0]) (by decide) rfl ?_ ?_; (first | simp -implicitDefEqProofs only [go_sem, hsucc]); repeat' (first | exact renE_n | ((with_reducible apply renE_c); exact rfl; focus (first | (simp -implicitDefEqProofs only [go_sem, hsucc]; done))))))
  replace hmany : (m : Int) = j + 1 := by omega
  have hsb := hnm.sum _ (Nat.le_refl _)
  have hsln : (slc out a m).length = m := slc_len (by omega)
  rw [List.take_length, hsln] at hsb
  have hws := h.slc (a := a) (m := m) (by omega) (by omega)
  by_cases hmis : ¬ 0 < d - sumI (slc out a m)
  · rw [reqStep, if_neg (fun hc => hmis hc.2)] at hsucc
    repeat' (first | ((with_reducible apply xsim); (first | ((with_reducible apply xo); exact rfl) | ((with_reducible apply xst); exact rfl) | with_reducible apply xend | ((with_reducible apply xalloc); exact rfl; simp only [bkL, Nat.reduceAdd, Nat.reduceSub]) | ((with_reducible apply xidxL); exact rfl; exact rfl; exact rfl; (first | exact hrow); omega; first | exact rfl | simp only [hsz]) | ((with_reducible apply xslcMB); exact rfl; exact rfl; exact rfl; exact rfl; (first | omega | (simp only [List.length_cons, List.length_nil]; omega))) | ((with_reducible apply xcallLend [0]); exact rfl; exact cs; (focus (first | exact rfl | (simp -implicitDefEqProofs only [go_sem, ↓reduceIte, Nat.reduceEqDiff, List.length_map, hsl, hle]; done))); exact rfl; exact rfl))) | ((with_reducible apply xaw); (first | ((with_reducible apply xstepS); refine AW.step tok rfl ?_) | ((with_reducible apply xstep); refine AW.region tok rfl ?_) | with_reducible (first | refine AW.seq ?_ | refine AW.block ?_ | refine AW.skip ?_) | ((with_reducible apply xcond); exact rfl) | ((with_reducible apply xdraw (id := 15)); refine AW.draw (id := 15) (.q 0 (.q 2 (.q 3 (.q 4 (.q 5 (.q 6 (.two 1 (.e 7 (.q 8 (.q 9 (.fin)))) 7 (.e 1 (.q 8 (.q 9 (.fin))))))))))) tok (by kernel_rfl) rfl (by kernel_rfl) ?_))) | ((with_reducible apply xarun); (first | ((with_reducible apply xrun_q); exact rfl; exact rfl; exact rfl) | ((with_reducible apply xrun_e); exact rfl) | with_reducible apply xrun_f | ((with_reducible apply xrun_2); exact rfl; exact rfl))) | with_reducible (first | refine xthen ?_ | refine xblock ?_) | (with_reducible intro hc; (try simp only [hcL, reduceCtorEq, List.length_map, hsl, hle] at hc); (try (exfalso; omega))) | with_reducible (first | exact trivial | refine And.intro ?_ ?_ | exact rfl) | exact Eq.refl true | (refine inR_i64.mpr ?_; first | omega | (simp only [List.length_map, List.length_map, hsl, hle]; omega)))
    all_goals refine round_end (k+1) hkl (by omega) (by (refine xwk (π := [0]) (by decide) rfl ?_ ?_; (first | simp -implicitDefEqProofs only [go_sem, hsucc]); repeat' (first | exact renE_n | ((with_reducible apply renE_c); exact rfl; focus (first | (simp -implicitDefEqProofs only [go_sem, hsucc]; done))))))
  replace hmis : 0 < d - sumI (slc out a m) := by omega
  have csp := c_spreadI (d - sumI (slc out a m)) (slc (weights ls) a m) (by omega) hws
  have hpl : (spread (d - sumI (slc out a m)) (slc (weights ls) a m)).length = m := by rw [spread_len]; exact slc_len (by rw [weights_len]; omega)
  have hpb := spread_bd hws (n := d - sumI (slc out a m)) (by omega)
  have hstep : reqRound ls ss (j + 1) (reqs ls ss j) (k + 1) = putN (spread (d - sumI (slc out a m)) (slc (weights ls) a m)) a m out := by rw [hsucc, reqStep, if_pos ⟨hmany, hmis⟩]; rfl
  generalize hps : spread (d - sumI (slc out a m)) (slc (weights ls) a m) = ps at *
  repeat' (first | ((with_reducible apply xsim); (first | ((with_reducible apply xo); exact rfl) | ((with_reducible apply xst); exact rfl) | with_reducible apply xend | ((with_reducible apply xalloc); exact rfl; simp only [bkL, Nat.reduceAdd, Nat.reduceSub]) | ((with_reducible apply xidxL); exact rfl; exact rfl; exact rfl; (first | exact hrow); omega; first | exact rfl | simp only [hsz]) | ((with_reducible apply xslcB); exact rfl; exact rfl; exact rfl; exact rfl; exact (fun r hr => by obtain ⟨a, _, rfl⟩ := List.mem_map.1 hr; rfl); first | omega | (simp only [List.length_cons, List.length_nil]; omega)) | ((with_reducible apply xslcMB); exact rfl; exact rfl; exact rfl; exact rfl; (first | omega | (simp only [List.length_cons, List.length_nil]; omega))) | ((with_reducible apply xcallIs); exact rfl; exact rfl; exact cw; exact rfl) | ((with_reducible apply xcallLend [0]); exact rfl; exact cs; (focus (first | exact rfl | (simp -implicitDefEqProofs only [go_sem, ↓reduceIte, Nat.reduceEqDiff, List.length_map, hsl, hle]; done))); exact rfl; exact rfl) | ((with_reducible apply xcallOwn); exact rfl; exact rfl; exact csp; simp only [bkL, Nat.reduceAdd, Nat.reduceSub]))) | ((with_reducible apply xaw); (first | ((with_reducible apply xstepS); refine AW.step tok rfl ?_) | with_reducible (first | refine AW.seq ?_ | refine AW.block ?_ | refine AW.skip ?_) | ((with_reducible apply xcond); exact rfl) | ((with_reducible apply xdraw (id := 15)); refine AW.draw (id := 15) (.q 0 (.q 2 (.q 3 (.q 4 (.q 5 (.q 6 (.two 1 (.e 7 (.q 8 (.q 9 (.fin)))) 7 (.e 1 (.q 8 (.q 9 (.fin))))))))))) tok (by kernel_rfl) rfl (by kernel_rfl) ?_))) | ((with_reducible apply xarun); (first | ((with_reducible apply xrun_q); exact rfl; exact rfl; exact rfl) | ((with_reducible apply xrun_e); exact rfl) | with_reducible apply xrun_f | ((with_reducible apply xrun_2); exact rfl; exact rfl))) | with_reducible refine xthen ?_ | (with_reducible intro hc; (try simp only [hcL, reduceCtorEq, List.length_map, hsl, hle] at hc); (try (exfalso; omega))) | with_reducible (first | exact trivial | refine And.intro ?_ ?_ | exact rfl) | exact Eq.refl true | (refine inR_i64.mpr ?_; first | omega | (simp only [List.length_map, List.length_map, hsl, hle]; omega)))
  all_goals
    refine AW.loop (S := fun i : Nat => ⟨[(0, .d (.lst (ls.map encLine))), (1, .d (.lst (ss.map encSpan))), (5, .msl 0 1 0 ls.length), (8, .d (.int .i64 ((j : Int) + 1))), (10, .oref 1 0), (33, .d (.lst (ss.map encSpan))), (34, .d (.int .i64 ss.length)), (35, .d (.int .i64 k)), (66, .msl 2 1 0 m), (67, .d (.int .i64 m)), (68, .d (.int .i64 i))],
        [.arr 1 ((putN ps a i out).map encN), .box [.d (.int .i64 a), .d (.int .i64 m), .d (.int .i64 d)], .arr 1 (ps.map encN)], 86, .p 0⟩)
      (Pre := fun i => i ≤ m) (μ := fun i => m - i) 0 (Nat.zero_le _) ?_ ?_
    · (refine xwk (π := [0, 1, 2]) (by decide) rfl ?_ ?_; (first | simp -implicitDefEqProofs only [go_sem, putN_zero, hpl]); repeat' (first | exact renE_n | ((with_reducible apply renE_c); exact rfl; focus (first | (simp -implicitDefEqProofs only [go_sem, putN_zero, hpl]; done)))))
    · intro i hi
      by_cases hil : i < m
      · have hrp := at_map (f := encN) (xs := ps) (k := i) (by omega)
        have hp := hpb _ (List.getElem_mem (show i < ps.length by omega))
        have ho := hro.bd _ (List.getElem_mem (show a + i < out.length by omega))
        have hz : ((putN ps a i out).map encN)[idxAdd 0 ((a : Int) + (i : Int)).toNat]? = some [.int .i64 (out[a + i]'(by omega))] := by
          rw [show idxAdd 0 ((a : Int) + (i : Int)).toNat = a + i by rw [idxAdd_eq]; omega, List.getElem?_map, putN_at (by omega)]; rfl
        have hset : ((putN ps a i out).map encN).set ((a : Int) + (i : Int)).toNat [.int .i64 (out[a + i]'(by omega) + ps[i]'(by omega))] = (putN ps a (i + 1) out).map encN := by
          rw [show ((a : Int) + (i : Int)).toNat = a + i by omega, ← putN_set (by omega) (by omega), List.map_set]; rfl
        repeat' (first | ((with_reducible apply xsim); (first | ((with_reducible apply xo); exact rfl) | with_reducible apply xend | ((with_reducible apply xidxM); exact rfl; exact rfl; exact rfl; omega; omega; exact rfl) | ((with_reducible apply xldA); exact rfl; exact rfl; exact rfl; (first | exact hrp | exact hz); exact rfl) | ((with_reducible apply xstA); exact rfl; exact rfl; exact rfl; exact rfl; (first | exact hrp | exact hz); exact rfl; exact rfl; exact rfl; exact rfl; (try simp only [List.set_cons_zero, List.set_cons_succ])))) | ((with_reducible apply xaw); (first | ((with_reducible apply xstepS); refine AW.step tok rfl ?_) | ((with_reducible apply xstep); refine AW.region tok rfl ?_) | with_reducible (first | refine AW.seq ?_ | refine AW.block ?_ | refine AW.skip ?_) | ((with_reducible apply xcond); exact rfl))) | with_reducible (first | refine xthen ?_ | refine xblock ?_) | (with_reducible intro hc; (try simp only [hcL, reduceCtorEq] at hc); (try (exfalso; omega))) | with_reducible (first | exact trivial | refine And.intro ?_ ?_ | exact rfl) | (refine inR_i64.mpr ?_; first | omega | (simp only [List.length_map]; omega)))
        refine round_end (i+1) hil (by omega) (by (refine xwk (π := [0, 1, 2]) (by decide) rfl ?_ ?_; (first | simp -implicitDefEqProofs only [go_sem, hset]); repeat' (first | exact renE_n | ((with_reducible apply renE_c); exact rfl; focus (first | (simp -implicitDefEqProofs only [go_sem, hset]; done))))))
      · have hi' : i = m := by omega
        subst hi'
        repeat' (first | ((with_reducible apply xsim); (first | ((with_reducible apply xo); exact rfl) | with_reducible apply xend)) | ((with_reducible apply xaw); (first | ((with_reducible apply xstepS); refine AW.step tok rfl ?_) | ((with_reducible apply xstep); refine AW.region tok rfl ?_) | with_reducible (first | refine AW.seq ?_ | refine AW.exit ?_) | ((with_reducible apply xcond); exact rfl))) | with_reducible (first | refine xthen ?_ | refine xthen_e ?_ | refine xblock ?_ | refine xblock_e ?_ | refine xround_e ?_) | (with_reducible intro hc; (try simp only [hcL, reduceCtorEq] at hc); (try (exfalso; omega))) | with_reducible (first | exact trivial | refine And.intro ?_ ?_ | exact rfl) | (refine inR_i64.mpr ?_; first | omega | (simp only [List.length_map]; omega)))
        refine round_end (k+1) hkl (by omega) (by (refine xwk (π := [0]) (by decide) rfl ?_ ?_; (first | simp -implicitDefEqProofs only [go_sem, hstep]); repeat' (first | exact renE_n | ((with_reducible apply renE_c); exact rfl; focus (first | (simp -implicitDefEqProofs only [go_sem, hstep]; done))))))
end Go.Proofs.YtpfhnhhkfobjnaaGreat

namespace Go.Proofs.YtpfhnhhkfobjnaaGreat
open Go.Fw
attribute [local irreducible] Go.Fw.aops Go.Fw.arun

theorem c_wished (ls : List Line) (ss : List Span) (h : LOk ls) (hs : SOk ss ls.length) : ACon Tryz.prog 127 [.d (.lst (ls.map encLine)), .d (.lst (ss.map encSpan))] [] (ONums (requests ls ss)) := by
  have hlo := h.lo; have hhi := h.hi; have hsh := hs.hi
  have hml := mins_len ls
  refine ACon.introW tok (nt := 100) Tryz.func127 rfl rfl rfl (by kernel_rfl) rfl ?_
  repeat' (first | ((with_reducible apply xsim); (first | ((with_reducible apply xo); exact rfl) | with_reducible apply xend | ((with_reducible apply xbuild); exact rfl; exact rfl; exact rfl; exact rfl; exact rfl; simp only [bkL, Nat.reduceAdd, Nat.reduceSub]))) | ((with_reducible apply xaw); (first | ((with_reducible apply xstepS); refine AW.step tok rfl ?_) | with_reducible (first | refine AW.seq ?_ | refine AW.block ?_))) | with_reducible exact trivial)
  refine AW.loop (S := fun k : Nat => ⟨[(0, .d (.lst (ls.map encLine))), (1, .d (.lst (ss.map encSpan))), (5, .msl 0 1 0 k), (6, .d (.int .i64 k))], [.arr 1 (((mins ls).take k).map encN)], 100, .p 0⟩)
    (Pre := fun k => k ≤ ls.length) (μ := fun k => ls.length - k) 0 (Nat.zero_le _) ?_ ?_
  · (refine xwk (π := [0]) (by decide) rfl ?_ ?_; (first | simp -implicitDefEqProofs only [go_sem, List.take_zero]); repeat' (first | exact renE_n | ((with_reducible apply renE_c); exact rfl; focus (first | (simp -implicitDefEqProofs only [go_sem, List.take_zero]; done)))))
  intro k hk
  have htl : ((mins ls).take k).length = k := by simp [hml]; omega
  by_cases hlt : k < ls.length
  · have hrow := at_map (f := encLine) hlt
    have hsu := mins_take hlt
    repeat' (first | ((with_reducible apply xsim); (first | ((with_reducible apply xlenM); exact rfl; exact rfl) | ((with_reducible apply xo); exact rfl) | with_reducible apply xend | ((with_reducible apply xbuild); exact rfl; exact rfl; exact rfl; exact rfl; exact rfl; simp only [bkL, Nat.reduceAdd, Nat.reduceSub]) | ((with_reducible apply xidxL); exact rfl; exact rfl; exact rfl; (first | exact hrow); omega; first | exact rfl | simp only [hsz]) | simp -implicitDefEqProofs only [go_sem, List.length_map, htl])) | ((with_reducible apply xaw); (first | ((with_reducible apply xstepS); refine AW.step tok rfl ?_) | ((with_reducible apply xstep); refine AW.region tok rfl ?_) | with_reducible (first | refine AW.seq ?_ | refine AW.block ?_ | refine AW.skip ?_) | ((with_reducible apply xcond); exact rfl))) | with_reducible refine xthen ?_ | (with_reducible intro hc; (try simp only [hcL, reduceCtorEq, List.length_map, htl] at hc); (try (exfalso; omega))) | with_reducible (first | exact trivial | refine And.intro ?_ ?_ | exact rfl) | (refine inR_i64.mpr ?_; first | omega | (simp only [List.length_map, List.length_map, htl]; omega)) | omega)
    refine round_end (k+1) hlt (by omega) (by (refine xwk (π := [2]) (by decide) rfl ?_ ?_; (first | simp -implicitDefEqProofs only [go_sem, hsu, List.map_append, encN]); repeat' (first | exact renE_n | ((with_reducible apply renE_c); exact rfl; focus (first | (simp -implicitDefEqProofs only [go_sem, hsu, List.map_append, encN]; done))))))
  have hk' : k = ls.length := by omega
  subst hk'
  have hta : (mins ls).take ls.length = mins ls := by rw [← hml, List.take_length]
  rw [hta]
  repeat' (first | ((with_reducible apply xsim); (first | ((with_reducible apply xlenM); exact rfl; exact rfl) | ((with_reducible apply xo); exact rfl) | with_reducible apply xend)) | ((with_reducible apply xaw); (first | ((with_reducible apply xstepS); refine AW.step tok rfl ?_) | with_reducible (first | refine AW.seq ?_ | refine AW.block ?_ | refine AW.exit ?_) | ((with_reducible apply xcond); exact rfl))) | with_reducible (first | refine xthen ?_ | refine xthen_e ?_ | refine xblock_e ?_ | refine xround_e ?_) | (with_reducible intro hc; (try simp only [hcL, reduceCtorEq, List.length_map] at hc); (try (exfalso; omega))) | with_reducible (first | exact trivial | refine And.intro ?_ ?_ | exact rfl))
  refine AW.loop (S := fun j : Nat => ⟨[(0, .d (.lst (ls.map encLine))), (1, .d (.lst (ss.map encSpan))), (5, .msl 0 1 0 ls.length), (7, .d (.int .i64 ((j : Int) + 1)))], [.arr 1 ((reqs ls ss j).map encN)], 100, .p 0⟩)
    (Pre := fun j => j ≤ ls.length) (μ := fun j => ls.length - j) 0 (Nat.zero_le _) ?_ ?_
  · (refine xwk (π := [0]) (by decide) rfl ?_ ?_; (first | simp -implicitDefEqProofs only [go_sem, reqs]); repeat' (first | exact renE_n | ((with_reducible apply renE_c); exact rfl; focus (first | (simp -implicitDefEqProofs only [go_sem, reqs]; done) | (simp -implicitDefEqProofs only [go_sem, reqs]; omega)))))
  intro j hj
  have hjr := reqs_rok h hs j
  by_cases hjl : ¬ j < ls.length
  · have hj' : j = ls.length := by omega
    subst hj'
    have hrl := (requests_rok h hs).len
    repeat' (first | ((with_reducible apply xsim); (first | ((with_reducible apply xlenM); exact rfl; exact rfl) | ((with_reducible apply xo); exact rfl) | with_reducible apply xend)) | ((with_reducible apply xaw); (first | ((with_reducible apply xstepS); refine AW.step tok rfl ?_) | with_reducible (first | refine AW.seq ?_ | refine AW.ret ?_ | refine AW.exit ?_) | ((with_reducible apply xcond); exact rfl))) | with_reducible (first | refine xthen ?_ | refine xthen_e ?_ | refine xblock_e ?_ | refine xround_e ?_) | (with_reducible intro hc; (try simp only [hcL, reduceCtorEq, List.length_map] at hc); (try (exfalso; omega))) | with_reducible (first | exact trivial | refine And.intro ?_ ?_ | exact rfl))
    (refine xfinOwn [0] (by first | exact .inl rfl | exact .inr rfl) rfl (by repeat' (first | exact trivial | exact rfl | refine And.intro ?_ ?_)) (by decide) rfl ?_ ?_ <;> simp -implicitDefEqProofs only [go_sem, requests, hjr.len])
  replace hjl : j < ls.length := by omega
  repeat' (first | ((with_reducible apply xsim); (first | ((with_reducible apply xlenM); exact rfl; exact rfl) | ((with_reducible apply xo); exact rfl) | with_reducible apply xend)) | ((with_reducible apply xaw); (first | ((with_reducible apply xstepS); refine AW.step tok rfl ?_) | with_reducible (first | refine AW.seq ?_ | refine AW.block ?_ | refine AW.skip ?_) | ((with_reducible apply xcond); exact rfl))) | with_reducible refine xthen ?_ | (with_reducible intro hc; (try simp only [hcL, reduceCtorEq, List.length_map] at hc); (try (exfalso; omega))) | with_reducible (first | exact trivial | refine And.intro ?_ ?_ | exact rfl))
  refine AW.loop (S := fun k : Nat => ⟨[(0, .d (.lst (ls.map encLine))), (1, .d (.lst (ss.map encSpan))), (5, .msl 0 1 0 ls.length), (7, .d (.int .i64 ((j : Int) + 1))), (8, .d (.int .i64 k))], [.arr 1 ((reqRound ls ss (j + 1) (reqs ls ss j) k).map encN)], 100, .p 0⟩)
    (Pre := fun k => k ≤ ss.length) (μ := fun k => ss.length - k) 0 (Nat.zero_le _) ?_ ?_
  · (refine xwk (π := [0]) (by decide) rfl ?_ ?_; (first | simp -implicitDefEqProofs only [go_sem, reqRound_zero]); repeat' (first | exact renE_n | ((with_reducible apply renE_c); exact rfl; focus (first | (simp -implicitDefEqProofs only [go_sem, reqRound_zero]; done)))))
  intro k hk
  by_cases hkl : ¬ k < ss.length
  · have hk' : k = ss.length := by omega
    subst hk'
    repeat' (first | ((with_reducible apply xsim); (first | ((with_reducible apply xlenM); exact rfl; exact rfl) | ((with_reducible apply xo); exact rfl) | with_reducible apply xend)) | ((with_reducible apply xaw); (first | ((with_reducible apply xstepS); refine AW.step tok rfl ?_) | ((with_reducible apply xstep); refine AW.region tok rfl ?_) | with_reducible (first | refine AW.seq ?_ | refine AW.exit ?_) | ((with_reducible apply xcond); exact rfl))) | with_reducible (first | refine xthen ?_ | refine xthen_e ?_ | refine xblock ?_ | refine xblock_e ?_ | refine xround_e ?_) | (with_reducible intro hc; (try simp only [hcL, reduceCtorEq, List.length_map] at hc); (try (exfalso; omega))) | with_reducible (first | exact trivial | refine And.intro ?_ ?_ | exact rfl) | (refine inR_i64.mpr ?_; first | omega | (simp only [List.length_map, List.length_map]; omega)))
    refine round_end (j+1) (by omega) (by omega) (by (refine xwk (π := [0]) (by decide) rfl ?_ ?_; (first | simp -implicitDefEqProofs only [go_sem, reqs]); repeat' (first | exact renE_n | ((with_reducible apply renE_c); exact rfl; focus (first | (simp -implicitDefEqProofs only [go_sem, reqs]; done))))))
  replace hkl : k < ss.length := by omega
  have hro := round_rok h hs hjr (m := j + 1) k hk
  have hrow := at_map (f := encSpan) hkl
  have hok := hs.ok _ (List.getElem_mem hkl)
  have hsucc := reqRound_succ (ls := ls) (m := j + 1) (out := reqs ls ss j) hkl
  generalize reqRound ls ss (j + 1) (reqs ls ss j) k = out at *
  generalize ss[k] = s at *
  obtain ⟨a, m, d⟩ := s
  dsimp only at hok
  obtain ⟨a, rfl⟩ := Int.eq_ofNat_of_zero_le hok.1
  obtain ⟨m, rfl⟩ := Int.eq_ofNat_of_zero_le (show 0 ≤ m by omega)
  have hol := hro.len
  have hsl : List.take (((a : Int) + m).toNat - a) (List.drop a (out.map encN)) = (slc out a m).map encN := by rw [slc, List.map_take, List.map_drop, show ((a : Int) + m).toNat - a = m by omega]
  have hle : a + (((a : Int) + m).toNat - a) ≤ out.length := by omega
  have ew : List.take (((a : Int) + m).toNat - (a : Int).toNat) (List.drop (a : Int).toNat ls) = slc ls a m := by rw [slc, show ((a : Int) + m).toNat - (a : Int).toNat = m by omega]; simp
  have hnm := hro.slc h.hi (a := a) (m := m)
  have cs := c_total (slc out a m) hnm
  have cw := c_weightsS (slc ls a m) (by rw [slc_len (by omega)]; omega)
  have hww : weights (slc ls a m) = slc (weights ls) a m := by simp [weights, slc_map]
  rw [hww, ← ew] at cw
  by_cases hmany : ¬ (m : Int) = j + 1
  · rw [reqStep, if_neg (fun hc => hmany hc.1)] at hsucc
    repeat' (first | ((with_reducible apply xsim); (first | ((with_reducible apply xlenM); exact rfl; exact rfl) | ((with_reducible apply xo); exact rfl) | ((with_reducible apply xst); exact rfl) | with_reducible apply xend | ((with_reducible apply xalloc); exact rfl; simp only [bkL, Nat.reduceAdd, Nat.reduceSub]) | ((with_reducible apply xidxL); exact rfl; exact rfl; exact rfl; (first | exact hrow); omega; first | exact rfl | simp only [hsz]))) | ((with_reducible apply xaw); (first | ((with_reducible apply xstepS); refine AW.step tok rfl ?_) | ((with_reducible apply xstep); refine AW.region tok rfl ?_) | with_reducible (first | refine AW.seq ?_ | refine AW.block ?_ | refine AW.skip ?_ | refine AW.exit ?_) | ((with_reducible apply xcond); exact rfl))) | with_reducible (first | refine xthen ?_ | refine xthen_e ?_ | refine xblock_e ?_) | (with_reducible intro hc; (try simp only [hcL, reduceCtorEq, List.length_map] at hc); (try (exfalso; omega))) | with_reducible (first | exact trivial | refine And.intro ?_ ?_ | exact rfl) | exact Eq.refl true | (refine inR_i64.mpr ?_; first | omega | (simp only [List.length_map, List.length_map]; omega)))
    refine round_end (k+1) hkl (by omega) (by (refine xwk (π := [0]) (by decide) rfl ?_ ?_; (first | simp -implicitDefEqProofs only [go_sem, hsucc]); repeat' (first | exact renE_n | ((with_reducible apply renE_c); exact rfl; focus (first | (simp -implicitDefEqProofs only [go_sem, hsucc]; done))))))
  replace hmany : (m : Int) = j + 1 := by omega
  have hsb := hnm.sum _ (Nat.le_refl _)
  have hsln : (slc out a m).length = m := slc_len (by omega)
  rw [List.take_length, hsln] at hsb
  have hws := h.slc (a := a) (m := m) (by omega) (by omega)
  by_cases hmis : ¬ 0 < d - sumI (slc out a m)
  · rw [reqStep, if_neg (fun hc => hmis hc.2)] at hsucc
    repeat' (first | ((with_reducible apply xsim); (first | ((with_reducible apply xlenM); exact rfl; exact rfl) | ((with_reducible apply xo); exact rfl) | ((with_reducible apply xst); exact rfl) | with_reducible apply xend | ((with_reducible apply xalloc); exact rfl; simp only [bkL, Nat.reduceAdd, Nat.reduceSub]) | ((with_reducible apply xidxL); exact rfl; exact rfl; exact rfl; (first | exact hrow); omega; first | exact rfl | simp only [hsz]) | ((with_reducible apply xslcMB); exact rfl; exact rfl; exact rfl; exact rfl; (first | omega | (simp only [List.length_cons, List.length_nil]; omega))) | ((with_reducible apply xcallLend [0]); exact rfl; exact cs; (focus (first | exact rfl | (simp -implicitDefEqProofs only [go_sem, ↓reduceIte, Nat.reduceEqDiff, List.length_map, hsl, hle]; done))); exact rfl; exact rfl))) | ((with_reducible apply xaw); (first | ((with_reducible apply xstepS); refine AW.step tok rfl ?_) | ((with_reducible apply xstep); refine AW.region tok rfl ?_) | with_reducible (first | refine AW.seq ?_ | refine AW.block ?_ | refine AW.skip ?_ | refine AW.exit ?_) | ((with_reducible apply xcond); exact rfl) | ((with_reducible apply xdraw (id := 14)); refine AW.draw (id := 14) (.q 0 (.q 2 (.q 3 (.q 4 (.q 5 (.q 6 (.q 7 (.q 8 (.q 9 (.q 10 (.two 1 (.e 11 (.q 12 (.q 13 (.fin)))) 11 (.e 1 (.q 12 (.q 13 (.fin))))))))))))))) tok (by kernel_rfl) rfl (by kernel_rfl) ?_))) | ((with_reducible apply xarun); (first | ((with_reducible apply xrun_q); exact rfl; exact rfl; exact rfl) | ((with_reducible apply xrun_e); exact rfl) | with_reducible apply xrun_f | ((with_reducible apply xrun_2); exact rfl; exact rfl))) | with_reducible (first | refine xthen ?_ | refine xthen_e ?_ | refine xblock_e ?_) | (with_reducible intro hc; (try simp only [hcL, reduceCtorEq, List.length_map, hsl, hle] at hc); (try (exfalso; omega))) | with_reducible (first | exact trivial | refine And.intro ?_ ?_ | exact rfl) | exact Eq.refl true | (refine inR_i64.mpr ?_; first | omega | (simp only [List.length_map, List.length_map, hsl, hle]; omega)))
    all_goals refine round_end (k+1) hkl (by omega) (by (refine xwk (π := [0]) (by decide) rfl ?_ ?_; (first | simp -implicitDefEqProofs only [go_sem, hsucc]); repeat' (first | exact renE_n | ((with_reducible apply renE_c); exact rfl; focus (first | (simp -implicitDefEqProofs only [go_sem, hsucc]; done))))))
  replace hmis : 0 < d - sumI (slc out a m) := by omega
  have csp := c_spreadS (d - sumI (slc out a m)) (slc (weights ls) a m) (by omega) hws
  have hpl : (spread (d - sumI (slc out a m)) (slc (weights ls) a m)).length = m := by rw [spread_len]; exact slc_len (by rw [weights_len]; omega)
  have hpb := spread_bd hws (n := d - sumI (slc out a m)) (by omega)
  have hstep : reqRound ls ss (j + 1) (reqs ls ss j) (k + 1) = putN (spread (d - sumI (slc out a m)) (slc (weights ls) a m)) a m out := by rw [hsucc, reqStep, if_pos ⟨hmany, hmis⟩]; rfl
  generalize hps : spread (d - sumI (slc out a m)) (slc (weights ls) a m) = ps at *
  repeat' (first | ((with_reducible apply xsim); (first | ((with_reducible apply xlenM); exact rfl; exact rfl) | ((with_reducible apply xo); exact rfl) | ((with_reducible apply xst); exact rfl) | with_reducible apply xend | ((with_reducible apply xalloc); exact rfl; simp only [bkL, Nat.reduceAdd, Nat.reduceSub]) | ((with_reducible apply xidxL); exact rfl; exact rfl; exact rfl; (first | exact hrow); omega; first | exact rfl | simp only [hsz]) | ((with_reducible apply xslcB); exact rfl; exact rfl; exact rfl; exact rfl; exact (fun r hr => by obtain ⟨a, _, rfl⟩ := List.mem_map.1 hr; rfl); first | omega | (simp only [List.length_cons, List.length_nil]; omega)) | ((with_reducible apply xslcMB); exact rfl; exact rfl; exact rfl; exact rfl; (first | omega | (simp only [List.length_cons, List.length_nil]; omega))) | ((with_reducible apply xcallIs); exact rfl; exact rfl; exact cw; exact rfl) | ((with_reducible apply xcallLend [0]); exact rfl; exact cs; (focus (first | exact rfl | (simp -implicitDefEqProofs only [go_sem, ↓reduceIte, Nat.reduceEqDiff, List.length_map, hsl, hle]; done))); exact rfl; exact rfl) | ((with_reducible apply xcallOwn); exact rfl; exact rfl; exact csp; simp only [bkL, Nat.reduceAdd, Nat.reduceSub]))) | ((with_reducible apply xaw); (first | ((with_reducible apply xstepS); refine AW.step tok rfl ?_) | with_reducible (first | refine AW.seq ?_ | refine AW.block ?_ | refine AW.skip ?_) | ((with_reducible apply xcond); exact rfl) | ((with_reducible apply xdraw (id := 14)); refine AW.draw (id := 14) (.q 0 (.q 2 (.q 3 (.q 4 (.q 5 (.q 6 (.q 7 (.q 8 (.q 9 (.q 10 (.two 1 (.e 11 (.q 12 (.q 13 (.fin)))) 11 (.e 1 (.q 12 (.q 13 (.fin))))))))))))))) tok (by kernel_rfl) rfl (by kernel_rfl) ?_))) | ((with_reducible apply xarun); (first | ((with_reducible apply xrun_q); exact rfl; exact rfl; exact rfl) | ((with_reducible apply xrun_e); exact rfl) | with_reducible apply xrun_f | ((with_reducible apply xrun_2); exact rfl; exact rfl))) | with_reducible refine xthen ?_ | (with_reducible intro hc; (try simp only [hcL, reduceCtorEq, List.length_map, hsl, hle] at hc); (try (exfalso; omega))) | with_reducible (first | exact trivial | refine And.intro ?_ ?_ | exact rfl) | exact Eq.refl true | (refine inR_i64.mpr ?_; first | omega | (simp only [List.length_map, List.length_map, hsl, hle]; omega)))
  all_goals
    refine AW.loop (S := fun i : Nat => ⟨[(0, .d (.lst (ls.map encLine))), (1, .d (.lst (ss.map encSpan))), (5, .msl 0 1 0 ls.length), (7, .d (.int .i64 ((j : Int) + 1))), (8, .d (.int .i64 k)), (9, .oref 1 0), (11, .msl 2 1 0 m), (12, .d (.int .i64 i))],
        [.arr 1 ((putN ps a i out).map encN), .box [.d (.int .i64 a), .d (.int .i64 m), .d (.int .i64 d)], .arr 1 (ps.map encN)], 100, .p 0⟩)
      (Pre := fun i => i ≤ m) (μ := fun i => m - i) 0 (Nat.zero_le _) ?_ ?_
    · (refine xwk (π := [0, 1, 2]) (by decide) rfl ?_ ?_; (first | simp -implicitDefEqProofs only [go_sem, putN_zero, hpl]); repeat' (first | exact renE_n | ((with_reducible apply renE_c); exact rfl; focus (first | (simp -implicitDefEqProofs only [go_sem, putN_zero, hpl]; done)))))
    · intro i hi
      by_cases hil : i < m
      · have hrp := at_map (f := encN) (xs := ps) (k := i) (by omega)
        have hp := hpb _ (List.getElem_mem (show i < ps.length by omega))
        have ho := hro.bd _ (List.getElem_mem (show a + i < out.length by omega))
        have hz : ((putN ps a i out).map encN)[idxAdd 0 ((a : Int) + (i : Int)).toNat]? = some [.int .i64 (out[a + i]'(by omega))] := by
          rw [show idxAdd 0 ((a : Int) + (i : Int)).toNat = a + i by rw [idxAdd_eq]; omega, List.getElem?_map, putN_at (by omega)]; rfl
        have hset : ((putN ps a i out).map encN).set ((a : Int) + (i : Int)).toNat [.int .i64 (out[a + i]'(by omega) + ps[i]'(by omega))] = (putN ps a (i + 1) out).map encN := by
          rw [show ((a : Int) + (i : Int)).toNat = a + i by omega, ← putN_set (by omega) (by omega), List.map_set]; rfl
        repeat' (first | ((with_reducible apply xsim); (first | ((with_reducible apply xo); exact rfl) | with_reducible apply xend | ((with_reducible apply xidxM); exact rfl; exact rfl; exact rfl; omega; omega; exact rfl) | ((with_reducible apply xldA); exact rfl; exact rfl; exact rfl; (first | exact hrp | exact hz); exact rfl) | ((with_reducible apply xstA); exact rfl; exact rfl; exact rfl; exact rfl; (first | exact hrp | exact hz); exact rfl; exact rfl; exact rfl; exact rfl; (try simp only [List.set_cons_zero, List.set_cons_succ])))) | ((with_reducible apply xaw); (first | ((with_reducible apply xstepS); refine AW.step tok rfl ?_) | ((with_reducible apply xstep); refine AW.region tok rfl ?_) | with_reducible (first | refine AW.seq ?_ | refine AW.block ?_ | refine AW.skip ?_) | ((with_reducible apply xcond); exact rfl) | ((with_reducible apply xdraw (id := 20)); refine AW.draw (id := 20) (.q 0 (.q 1 (.q 2 (.q 3 (.q 4 (.q 5 (.q 6 (.q 7 (.q 8 (.q 9 (.q 10 (.q 11 (.q 12 (.q 13 (.q 14 (.q 15 (.q 16 (.q 17 (.e 18 (.fin)))))))))))))))))))) tok (by kernel_rfl) rfl (by kernel_rfl) ?_))) | ((with_reducible apply xarun); (first | ((with_reducible apply xrun_q); exact rfl; exact rfl; exact rfl) | ((with_reducible apply xrun_e); exact rfl) | with_reducible apply xrun_f)) | with_reducible (first | refine xthen ?_ | refine xblock ?_) | (with_reducible intro hc; (try simp only [hcL, reduceCtorEq] at hc); (try (exfalso; omega))) | with_reducible (first | exact trivial | refine And.intro ?_ ?_ | exact rfl) | exact Eq.refl true | (refine inR_i64.mpr ?_; first | omega | (simp only [List.length_map]; omega)))
        refine round_end (i+1) hil (by omega) (by (refine xwk (π := [0, 1, 2]) (by decide) rfl ?_ ?_; (first | simp -implicitDefEqProofs only [go_sem, hset]); repeat' (first | exact renE_n | ((with_reducible apply renE_c); exact rfl; focus (first | (simp -implicitDefEqProofs only [go_sem, hset]; done))))))
      · have hi' : i = m := by omega
        subst hi'
        repeat' (first | ((with_reducible apply xsim); (first | ((with_reducible apply xo); exact rfl) | with_reducible apply xend)) | ((with_reducible apply xaw); (first | ((with_reducible apply xstepS); refine AW.step tok rfl ?_) | ((with_reducible apply xstep); refine AW.region tok rfl ?_) | with_reducible (first | refine AW.seq ?_ | refine AW.exit ?_) | ((with_reducible apply xcond); exact rfl))) | with_reducible (first | refine xthen ?_ | refine xthen_e ?_ | refine xblock ?_ | refine xblock_e ?_ | refine xround_e ?_) | (with_reducible intro hc; (try simp only [hcL, reduceCtorEq] at hc); (try (exfalso; omega))) | with_reducible (first | exact trivial | refine And.intro ?_ ?_ | exact rfl) | exact Eq.refl true | (refine inR_i64.mpr ?_; first | omega | (simp only [List.length_map]; omega)))
        refine round_end (k+1) hkl (by omega) (by (refine xwk (π := [0]) (by decide) rfl ?_ ?_; (first | simp -implicitDefEqProofs only [go_sem, hstep]); repeat' (first | exact renE_n | ((with_reducible apply renE_c); exact rfl; focus (first | (simp -implicitDefEqProofs only [go_sem, hstep]; done))))))
end Go.Proofs.YtpfhnhhkfobjnaaGreat

namespace Go.Proofs.YtpfhnhhkfobjnaaGreat
open Go.Fw
attribute [local irreducible] Go.Fw.aops Go.Fw.arun

theorem fill_skip {ls : List Line} {out : List Int} {k : Nat} (ho : out.length = ls.length) (hk : k < ls.length) (hc : ¬ ls[k].min < out[k]'(by omega)) : fillRows encN zN (nowW ls out) k = fillRows encN zN (nowW ls out) (k + 1) := by
  have hn := nowW_len ho
  have hset := fillRows_set (enc := encN) (z := zN) (xs := nowW ls out) (k := k) (by omega)
  have hat := fillRows_at (enc := encN) (z := zN) (xs := nowW ls out) (k := k) (by omega)
  rw [← hset, nowW_at hk (by omega), if_neg hc]
  refine List.ext_getElem? fun i => ?_
  rw [List.getElem?_set]
  split
  · rename_i e; subst e
    split
    · exact hat
    · rename_i hl; rw [fillRows_len (by omega)] at hl; omega
  · rfl
theorem spread0 {ws : List Int} (h : WOk ws) {a k : Nat} {out : List Int} : putN (spread 0 ws) a k out = out := by
  have hb := spread_bd h (n := 0) (by omega)
  refine List.ext_getElem putN_len fun i h1 h2 => ?_
  simp only [putN, List.getElem_mapIdx]
  split
  · cases hg : (spread 0 ws)[i - a]? with
    | none => simp
    | some y => have := hb y (List.mem_of_getElem? hg); simp only [Option.getD_some]; omega
  · rfl

/-- What the rounds of the shrinking need. -/
structure Shr (ls : List Line) (n : Int) (T : Nat → List Int × Int) : Prop where
  inv : ∀ r, SInv ls (T r).1 ∧ 0 ≤ (T r).2 ∧ (T r).2 ≤ n
  succ : ∀ r, 0 < (T r).2 → sumI (nowW ls (T r).1) ≠ 0 → (T (r + 1)) = (less ls (T r).1 (T r).2, (T r).2 - sumI (tks ls (T r).1 (T r).2))
  run : ∀ r : Nat, (T r).2 + r ≤ n → 0 < (T r).2 → sumI (nowW ls (T r).1) ≠ 0 → (T (r + 1)).2 + (r + 1 : Nat) ≤ n ∧ (T (r + 1)).2 < (T r).2
  done : ∀ r : Nat, (T r).2 + r ≤ n → ¬ (0 < (T r).2 ∧ sumI (nowW ls (T r).1) ≠ 0) → T n.toNat = T r
theorem shr_of {ls : List Line} {out : List Int} {n : Int} (h : LOk ls) (ho : SInv ls out) (hn : 0 ≤ n) : Shr ls n (shrinkTo ls out n) := by
  refine ⟨fun r => ?_, fun r h1 h2 => ?_, fun r hr h1 h2 => shrink_run h ho hn hr ⟨h1, h2⟩, fun r hr hc => shrink_done hc _ ?_⟩
  · obtain ⟨i1, i2, i3, _⟩ := shrink_inv h ho hn r
    exact ⟨i1, i2, i3⟩
  · rw [shrinkTo]; simp only [if_pos (And.intro h1 h2)]
  · obtain ⟨i1, i2, i3, _⟩ := shrink_inv h ho hn r
    omega

set_option maxHeartbeats 4000000 in
theorem c_lineSizesI (ls : List Line) (ss : List Span) (room : Int) (h : LOk ls) (hs : SOk ss ls.length) (hr : 0 ≤ room ∧ room ≤ 16384) : ACon Tryz.prog 105 [.d (.lst (ls.map encLine)), .d (.lst (ss.map encSpan)), .d (.int .i64 room)] [] (ONums (sizes ls (requests ls ss) room)) := by
  have hlo := h.lo; have hhi := h.hi; have hsh := hs.hi
  have cr := c_lineRequestsI ls ss h hs
  have ho := requests_ge h hs
  generalize requests ls ss = out at *
  have hol := ho.len
  have cw := c_weightsI ls hhi
  have cs := c_sum out (ho.toROk.nums hhi)
  have hb := sum50 ho.toROk hhi
  have hall := h.all
  have csw := c_sum (weights ls) hall.nums
  have hws := hall.sum
  have hwn := hall.nums.sum _ (Nat.le_refl _)
  have hwl := weights_len ls
  rw [List.take_length, hwl] at hwn
  by_cases h1 : room - sumI out < 0
  · have hsz : sizes ls out room = (shrinkTo ls out (sumI out - room) (sumI out - room).toNat).1 := by rw [sizes, if_pos h1]
    have hS := shr_of h ho (show 0 ≤ sumI out - room by omega)
    have hT0 : shrinkTo ls out (sumI out - room) 0 = (out, sumI out - room) := rfl
    generalize shrinkTo ls out (sumI out - room) = T at *
    refine ACon.introW tok (nt := 116) Tryz.func105 rfl rfl rfl (by kernel_rfl) rfl ?_
    have htk : ∀ xs : List Int, xs.length = ls.length → List.take ls.length (xs.map encN) = xs.map encN := fun xs hx => List.take_of_length_le (by simp [hx])
    repeat' (first | ((with_reducible apply xsim); (first | ((with_reducible apply xo); exact rfl) | with_reducible apply xend | ((with_reducible apply xguardS); exact rfl; exact rfl) | ((with_reducible apply xcallIs); exact rfl; exact rfl; (first | exact cw | exact csw); exact rfl) | ((with_reducible apply xcallLend [0]); exact rfl; exact cs; (focus (first | exact rfl | (simp -implicitDefEqProofs only [go_sem, ↓reduceIte, Nat.reduceEqDiff, List.length_map, hol, htk out hol]; done))); exact rfl; exact rfl) | ((with_reducible apply xcallOwn); exact rfl; exact rfl; exact cr; simp only [bkL, Nat.reduceAdd, Nat.reduceSub]))) | ((with_reducible apply xaw); (first | ((with_reducible apply xstepS); refine AW.step tok rfl ?_) | with_reducible (first | refine AW.seq ?_ | refine AW.block ?_ | refine AW.skip ?_) | ((with_reducible apply xcond); exact rfl))) | with_reducible refine xthen ?_ | (with_reducible intro hc; (try simp only [hcL, reduceCtorEq, List.length_map, hol, htk out hol] at hc); (try (exfalso; omega))) | with_reducible (first | exact trivial | refine And.intro ?_ ?_ | exact rfl) | (refine inR_i64.mpr ?_; first | omega | (simp only [List.length_map, List.length_map, hol, htk out hol]; omega)))
    refine AW.loop (S := fun r : Nat => ⟨[(0, .d (.lst (ls.map encLine))), (7, .msl 0 1 0 ls.length), (12, .d (.int .i64 (T r).2))], [.arr 1 ((T r).1.map encN)], 116, .p 0⟩)
      (Pre := fun r => (T r).2 + r ≤ sumI out - room) (μ := fun r => (T r).2.toNat) 0 (by rw [hT0]; simp) ?_ ?_
    · (refine xwk (π := [0]) (by decide) rfl ?_ ?_; (first | simp -implicitDefEqProofs only [go_sem, hT0, hol]); repeat' (first | exact renE_n | ((with_reducible apply renE_c); exact rfl; focus (first | (simp -implicitDefEqProofs only [go_sem, hT0, hol]; done)))))
    intro r hpre
    obtain ⟨i1, i2, i3⟩ := hS.inv r
    have hsu := hS.succ r
    have hrun := hS.run r hpre
    have hdn := hS.done r hpre
    by_cases hpos : ¬ 0 < (T r).2
    · have hfin := hdn (fun hc => hpos hc.1)
      rw [hfin] at hsz
      repeat' (first | ((with_reducible apply xsim); (first | ((with_reducible apply xo); exact rfl) | with_reducible apply xend)) | ((with_reducible apply xaw); (first | ((with_reducible apply xstepS); refine AW.step tok rfl ?_) | with_reducible (first | refine AW.seq ?_ | refine AW.ret ?_ | refine AW.exit ?_) | ((with_reducible apply xcond); exact rfl))) | with_reducible (first | refine xthen ?_ | refine xthen_e ?_ | refine xblock_e ?_ | refine xround_e ?_) | (with_reducible intro hc; (try simp only [hcL, reduceCtorEq] at hc); (try (exfalso; omega))) | with_reducible (first | exact trivial | refine And.intro ?_ ?_ | exact rfl))
      (refine xfinOwn [0] (by first | exact .inl rfl | exact .inr rfl) rfl (by repeat' (first | exact trivial | exact rfl | refine And.intro ?_ ?_)) (by decide) rfl ?_ ?_ <;> simp -implicitDefEqProofs only [go_sem, hsz, i1.len])
    replace hpos : 0 < (T r).2 := by omega
    generalize hTr : T r = st at *
    obtain ⟨ys, n⟩ := st
    dsimp only at i1 i2 i3 hpre hsu hrun hdn hpos ⊢
    have hyl := i1.len
    have hnl := nowW_len hyl
    have hno := nowW_ok h hyl
    have hnb := hno.nums.sum _ (Nat.le_refl _)
    rw [List.take_length, hnl] at hnb
    have csn := c_sum (nowW ls ys) hno.nums
    have hsb := sum50 i1.toROk hhi
    repeat' (first | ((with_reducible apply xsim); (first | ((with_reducible apply xlenM); exact rfl; exact rfl) | ((with_reducible apply xo); exact rfl) | with_reducible apply xend | simp -implicitDefEqProofs only [go_sem, List.length_map, hyl, List.length_replicate])) | ((with_reducible apply xaw); (first | ((with_reducible apply xstepS); refine AW.step tok rfl ?_) | with_reducible (first | refine AW.seq ?_ | refine AW.block ?_ | refine AW.skip ?_) | ((with_reducible apply xcond); exact rfl))) | with_reducible refine xthen ?_ | (with_reducible intro hc; (try simp only [hcL, reduceCtorEq, List.length_map, hyl, List.length_replicate] at hc); (try (exfalso; omega))) | with_reducible (first | exact trivial | refine And.intro ?_ ?_ | exact rfl) | omega)
    refine AW.loop (S := fun k : Nat => ⟨[(0, .d (.lst (ls.map encLine))), (7, .msl 0 1 0 ls.length), (12, .d (.int .i64 n)), (13, .msl 1 1 0 ls.length), (60, .d (.lst (ls.map encLine))), (61, .d (.int .i64 ls.length)), (62, .d (.int .i64 k))], [.arr 1 (ys.map encN), .arr 1 (fillRows encN zN (nowW ls ys) k)], 116, .p 0⟩)
      (Pre := fun k => k ≤ ls.length) (μ := fun k => ls.length - k) 0 (Nat.zero_le _) ?_ ?_
    · (refine xwk (π := [0, 1]) (by decide) rfl ?_ ?_; (first | simp -implicitDefEqProofs only [go_sem, fillRows_zero, zN, hnl]); repeat' (first | exact renE_n | ((with_reducible apply renE_c); exact rfl; focus (first | (simp -implicitDefEqProofs only [go_sem, fillRows_zero, zN, hnl]; done)))))
    intro k hk
    by_cases hkl : k < ls.length
    · have hrow := at_map (f := encLine) hkl
      have hry := at_map (f := encN) (xs := ys) (k := k) (by omega)
      have hz := fillRows_at (enc := encN) (z := zN) (show k < (nowW ls ys).length by omega)
      have hset := fillRows_set (enc := encN) (z := zN) (show k < (nowW ls ys).length by omega)
      have hskip := fill_skip hyl hkl
      rw [nowW_at hkl (by omega)] at hset
      by_cases hc : ls[k].min < ys[k]
      · rw [if_pos hc] at hset
        simp only [encN] at hset
        repeat' (first | ((with_reducible apply xsim); (first | ((with_reducible apply xo); exact rfl) | ((with_reducible apply xst); exact rfl) | with_reducible apply xend | ((with_reducible apply xalloc); exact rfl; simp only [bkL, Nat.reduceAdd, Nat.reduceSub]) | ((with_reducible apply xidxL); exact rfl; exact rfl; exact rfl; (first | exact hrow | exact hry | exact hz); omega; first | exact rfl | simp only [hsz]) | ((with_reducible apply xidxM); exact rfl; exact rfl; exact rfl; omega; omega; exact rfl) | ((with_reducible apply xldA); exact rfl; exact rfl; exact rfl; (first | exact hrow | exact hry | exact hz); exact rfl) | ((with_reducible apply xstA); exact rfl; exact rfl; exact rfl; exact rfl; (first | exact hrow | exact hry | exact hz); exact rfl; exact rfl; exact rfl; exact rfl; (try simp only [List.set_cons_zero, List.set_cons_succ, List.length_map])))) | ((with_reducible apply xaw); (first | ((with_reducible apply xstepS); refine AW.step tok rfl ?_) | ((with_reducible apply xstep); refine AW.region tok rfl ?_) | with_reducible (first | refine AW.seq ?_ | refine AW.block ?_ | refine AW.skip ?_) | ((with_reducible apply xcond); exact rfl) | ((with_reducible apply xdraw (id := 16)); refine AW.draw (id := 16) (.q 0 (.q 1 (.q 2 (.q 3 (.q 4 (.q 5 (.q 6 (.fin)))))))) tok (by kernel_rfl) rfl (by kernel_rfl) ?_))) | ((with_reducible apply xarun); (first | ((with_reducible apply xrun_q); exact rfl; exact rfl; exact rfl) | with_reducible apply xrun_f)) | with_reducible (first | refine xthen ?_ | refine xblock ?_) | (with_reducible intro hc; (try simp only [hcL, reduceCtorEq, List.length_map] at hc); (try (exfalso; omega))) | with_reducible (first | exact trivial | refine And.intro ?_ ?_ | exact rfl) | exact Eq.refl true | (refine inR_i64.mpr ?_; first | omega | (simp only [List.length_map, List.length_map]; omega)))
        all_goals refine round_end (k+1) hkl (by omega) (by (refine xwk (π := [0, 1]) (by decide) rfl ?_ ?_; (first | simp -implicitDefEqProofs only [go_sem, hset]); repeat' (first | exact renE_n | ((with_reducible apply renE_c); exact rfl; focus (first | (simp -implicitDefEqProofs only [go_sem, hset]; done))))))
      · have hskip := hskip hc
        repeat' (first | ((with_reducible apply xsim); (first | ((with_reducible apply xo); exact rfl) | ((with_reducible apply xst); exact rfl) | with_reducible apply xend | ((with_reducible apply xalloc); exact rfl; simp only [bkL, Nat.reduceAdd, Nat.reduceSub]) | ((with_reducible apply xidxL); exact rfl; exact rfl; exact rfl; (first | exact hrow | exact hry | exact hz); omega; first | exact rfl | simp only [hsz]) | ((with_reducible apply xidxM); exact rfl; exact rfl; exact rfl; omega; omega; exact rfl) | ((with_reducible apply xldA); exact rfl; exact rfl; exact rfl; (first | exact hrow | exact hry | exact hz); exact rfl))) | ((with_reducible apply xaw); (first | ((with_reducible apply xstepS); refine AW.step tok rfl ?_) | ((with_reducible apply xstep); refine AW.region tok rfl ?_) | with_reducible (first | refine AW.seq ?_ | refine AW.block ?_ | refine AW.skip ?_) | ((with_reducible apply xcond); exact rfl) | ((with_reducible apply xdraw (id := 16)); refine AW.draw (id := 16) (.q 0 (.q 1 (.q 2 (.q 3 (.q 4 (.q 5 (.q 6 (.fin)))))))) tok (by kernel_rfl) rfl (by kernel_rfl) ?_))) | ((with_reducible apply xarun); (first | ((with_reducible apply xrun_q); exact rfl; exact rfl; exact rfl) | with_reducible apply xrun_f)) | with_reducible (first | refine xthen ?_ | refine xblock ?_) | (with_reducible intro hc; (try simp only [hcL, reduceCtorEq, List.length_map] at hc); (try (exfalso; omega))) | with_reducible (first | exact trivial | refine And.intro ?_ ?_ | exact rfl) | exact Eq.refl true | (refine inR_i64.mpr ?_; first | omega | (simp only [List.length_map, List.length_map]; omega)))
        all_goals refine round_end (k+1) hkl (by omega) (by (refine xwk (π := [0, 1]) (by decide) rfl ?_ ?_; (first | simp -implicitDefEqProofs only [go_sem, hskip]); repeat' (first | exact renE_n | ((with_reducible apply renE_c); exact rfl; focus (first | (simp -implicitDefEqProofs only [go_sem, hskip]; done))))))
    have hk' : k = ls.length := by omega
    subst hk'
    have hall := fillRows_all (enc := encN) (z := zN) (xs := nowW ls ys)
    rw [hnl] at hall
    rw [hall]
    have htn := htk (nowW ls ys) hnl
    by_cases h0 : sumI (nowW ls ys) = 0
    · have hfin := hdn (fun hc => hc.2 h0)
      rw [hfin] at hsz
      repeat' (first | ((with_reducible apply xsim); (first | ((with_reducible apply xo); exact rfl) | with_reducible apply xend | ((with_reducible apply xcallLend [1]); exact rfl; exact csn; (focus (first | exact rfl | (simp -implicitDefEqProofs only [go_sem, ↓reduceIte, Nat.reduceEqDiff, List.length_map, hnl, htn]; done))); exact rfl; exact rfl))) | ((with_reducible apply xaw); (first | ((with_reducible apply xstepS); refine AW.step tok rfl ?_) | with_reducible (first | refine AW.seq ?_ | refine AW.ret ?_ | refine AW.exit ?_) | ((with_reducible apply xcond); exact rfl))) | with_reducible (first | refine xthen ?_ | refine xthen_e ?_ | refine xblock_e ?_ | refine xblock_n rfl ?_ | refine xround_e ?_) | (with_reducible intro hc; (try simp only [hcL, reduceCtorEq, List.length_map, hnl, htn] at hc); (try (exfalso; omega))) | with_reducible (first | exact trivial | refine And.intro ?_ ?_ | exact rfl))
      all_goals (refine xfinOwn [0] (by first | exact .inl rfl | exact .inr rfl) rfl (by repeat' (first | exact trivial | exact rfl | refine And.intro ?_ ?_)) (by decide) rfl ?_ ?_ <;> simp -implicitDefEqProofs only [go_sem, hsz, hyl])
    have csp := c_spreadI n (nowW ls ys) (by omega) hno
    have hpl : (spread n (nowW ls ys)).length = ls.length := by rw [spread_len, hnl]
    have hpb := spread_bd hno (n := n) (by omega)
    have htl := tks_len (n := n) hyl
    have htb : ∀ i (h1 : i < (tks ls ys n).length) (h3 : i < ys.length) (h4 : i < ls.length), 0 ≤ (tks ls ys n)[i] ∧ (tks ls ys n)[i] ≤ ys[i] - ls[i].min := fun i h1 h3 h4 => tks_bd h i1 (n := n) (by omega) (i := i) h4
    have hta : ∀ i (h1 : i < (tks ls ys n).length) (h2 : i < (spread n (nowW ls ys)).length) (h3 : i < ys.length) (h4 : i < ls.length), (tks ls ys n)[i] = min (spread n (nowW ls ys))[i] (ys[i] - ls[i].min) := fun i h1 h2 h3 h4 => tks_at (n := n) hyl (i := i) h4
    have hll := less_len (n := n) hyl
    have hla : ∀ i (h1 : i < (less ls ys n).length) (h2 : i < (tks ls ys n).length) (h3 : i < ys.length), (less ls ys n)[i] = ys[i] - (tks ls ys n)[i] := fun i h1 h2 h3 => less_at (n := n) hyl (i := i) (by omega)
    have htnn := tks_nonneg h i1 (n := n) (by omega)
    have hts := tks_sum h i1 (n := n) (by omega)
    have hsu := hsu hpos h0
    have hrun := hrun hpos h0
    generalize spread n (nowW ls ys) = ps at *
    generalize tks ls ys n = tk at *
    generalize less ls ys n = zs at *
    repeat' (first | ((with_reducible apply xsim); (first | ((with_reducible apply xo); exact rfl) | with_reducible apply xend | ((with_reducible apply xcallLend [1]); exact rfl; exact csn; (focus (first | exact rfl | (simp -implicitDefEqProofs only [go_sem, ↓reduceIte, Nat.reduceEqDiff, List.length_map, hnl, htn]; done))); exact rfl; exact rfl) | ((with_reducible apply xcallOwnLend [1]); exact rfl; exact csp; (focus (first | exact rfl | (simp -implicitDefEqProofs only [go_sem, ↓reduceIte, Nat.reduceEqDiff, List.length_map, hnl, htn]; done))); (focus (first | exact ⟨rfl, flat1 (fun _ => rfl)⟩ | (simp -implicitDefEqProofs only [go_sem]; done))); simp only [bkL, Nat.reduceAdd, Nat.reduceSub]))) | ((with_reducible apply xaw); (first | ((with_reducible apply xstepS); refine AW.step tok rfl ?_) | with_reducible (first | refine AW.seq ?_ | refine AW.block ?_ | refine AW.skip ?_ | refine AW.exit ?_) | ((with_reducible apply xcond); exact rfl))) | with_reducible (first | refine xthen ?_ | refine xthen_e ?_ | refine xblock_e ?_ | refine xround_e ?_) | (with_reducible intro hc; (try simp only [hcL, reduceCtorEq, List.length_map, hnl, htn] at hc); (try (exfalso; omega))) | with_reducible (first | exact trivial | refine And.intro ?_ ?_ | exact rfl) | exact Eq.refl true)
    refine AW.loop (S := fun i : Nat => ⟨[(0, .d (.lst (ls.map encLine))), (7, .msl 0 1 0 ls.length), (12, .d (.int .i64 (n - sumI (tk.take i)))), (85, .msl 1 1 0 ls.length), (86, .d (.int .i64 ls.length)), (87, .d (.int .i64 i))], [.arr 1 ((mix zs ys i).map encN), .arr 1 (ps.map encN)], 116, .p 0⟩)
      (Pre := fun i => i ≤ ls.length) (μ := fun i => ls.length - i) 0 (Nat.zero_le _) ?_ ?_
    · (refine xwk (π := [0, 2]) (by decide) rfl ?_ ?_; (first | simp -implicitDefEqProofs only [go_sem, mix_zero, List.take_zero, sumI, Int.sub_zero, hpl]); repeat' (first | exact renE_n | ((with_reducible apply renE_c); exact rfl; focus (first | (simp -implicitDefEqProofs only [go_sem, mix_zero, List.take_zero, sumI, Int.sub_zero, hpl]; done)))))
    intro i hi
    by_cases hil : i < ls.length
    · have hrow := at_map (f := encLine) hil
      have hrp := at_map (f := encN) (xs := ps) (k := i) (by omega)
      have hmx := mixmap_at (f := encN) (ys := zs) (zs := ys) (k := i) (by omega) (by omega)
      have hset := mixmap_set (f := encN) (ys := zs) (zs := ys) (k := i) (by omega) (by omega)
      have a1 := hta i (by omega) (by omega) (by omega) hil
      have a2 := hla i (by omega) (by omega) (by omega)
      have a3 := htb i (by omega) (by omega) hil
      have a4 := sumI_take (xs := tk) (k := i) (by omega)
      have a5 := sumI_nonneg (xs := tk.take i) (fun x hx => htnn x (List.mem_of_mem_take hx))
      have a6 := sumI_nonneg (xs := tk.take (i + 1)) (fun x hx => htnn x (List.mem_of_mem_take hx))
      have a7 := take_all htnn (a := i)
      have a8 := take_all htnn (a := i + 1)
      have a9 := hpb _ (List.getElem_mem (show i < ps.length by omega))
      have b1 := i1.bd _ (List.getElem_mem (show i < ys.length by omega))
      have b2 := h.ok _ (List.getElem_mem hil)
      rw [a2, a1] at hset
      rw [a1] at a4
      simp only [encN] at hset
      repeat' (first | ((with_reducible apply xsim); (first | ((with_reducible apply xo); exact rfl) | with_reducible apply xend | ((with_reducible apply xidxL); exact rfl; exact rfl; exact rfl; (first | exact hrow | exact hrp | exact hmx); omega; first | exact rfl | simp only [hsz]) | ((with_reducible apply xidxM); exact rfl; exact rfl; exact rfl; omega; omega; exact rfl) | ((with_reducible apply xldA); exact rfl; exact rfl; exact rfl; (first | exact hrow | exact hrp | exact hmx); exact rfl) | ((with_reducible apply xstA); exact rfl; exact rfl; exact rfl; exact rfl; (first | exact hrow | exact hrp | exact hmx); exact rfl; exact rfl; exact rfl; exact rfl; (try simp only [List.set_cons_zero, List.set_cons_succ, List.length_map])))) | ((with_reducible apply xaw); (first | ((with_reducible apply xstepS); refine AW.step tok rfl ?_) | ((with_reducible apply xstep); refine AW.region tok rfl ?_) | with_reducible (first | refine AW.seq ?_ | refine AW.block ?_ | refine AW.skip ?_) | ((with_reducible apply xcond); exact rfl) | ((with_reducible apply xdraw (id := 23)); refine AW.draw (id := 23) (.q 0 (.q 1 (.q 2 (.q 3 (.q 4 (.q 5 (.q 6 (.q 7 (.q 8 (.q 9 (.q 10 (.q 11 (.e 12 (.fin)))))))))))))) tok (by kernel_rfl) rfl (by kernel_rfl) ?_))) | ((with_reducible apply xarun); (first | ((with_reducible apply xrun_q); exact rfl; exact rfl; exact rfl) | ((with_reducible apply xrun_e); exact rfl) | with_reducible apply xrun_f)) | with_reducible (first | refine xthen ?_ | refine xblock ?_) | (with_reducible intro hc; (try simp only [hcL, reduceCtorEq, List.length_map] at hc); (try (exfalso; omega))) | with_reducible (first | exact trivial | refine And.intro ?_ ?_ | exact rfl) | (refine inR_i64.mpr ?_; first | omega | (simp only [List.length_map, List.length_map]; omega)))
      all_goals refine round_end (i+1) hil (by omega) (by (refine xwk (π := [0, 1]) (by decide) rfl ?_ ?_; (first | simp -implicitDefEqProofs only [go_sem, hset, a4, Int.sub_sub]); repeat' (first | exact renE_n | ((with_reducible apply renE_c); exact rfl; focus (first | (simp -implicitDefEqProofs only [go_sem, hset, a4, Int.sub_sub]; done))))))
    have hi' : i = ls.length := by omega
    subst hi'
    have hall2 := mix_all (ys := zs) (zs := ys) (by omega)
    rw [hll] at hall2
    have htk2 : tk.take ls.length = tk := by rw [← htl, List.take_length]
    repeat' (first | ((with_reducible apply xsim); (first | ((with_reducible apply xo); exact rfl) | with_reducible apply xend)) | ((with_reducible apply xaw); (first | ((with_reducible apply xstepS); refine AW.step tok rfl ?_) | with_reducible (first | refine AW.seq ?_ | refine AW.exit ?_) | ((with_reducible apply xcond); exact rfl))) | with_reducible (first | refine xthen_e ?_ | refine xblock ?_ | refine xblock_e ?_ | refine xround_e ?_) | (with_reducible intro hc; (try simp only [hcL, reduceCtorEq] at hc); (try (exfalso; omega))) | with_reducible (first | exact trivial | refine And.intro ?_ ?_ | exact rfl))
    refine round_end (r+1) hrun.1 (by rw [hTr]; dsimp only; omega) (by (refine xwk (π := [0]) (by decide) rfl ?_ ?_; (first | simp -implicitDefEqProofs only [go_sem, hsu, hall2, htk2]); repeat' (first | exact renE_n | ((with_reducible apply renE_c); exact rfl; focus (first | (simp -implicitDefEqProofs only [go_sem, hsu, hall2, htk2]; done))))))
  · have htk : ∀ xs : List Int, xs.length = ls.length → List.take ls.length (xs.map encN) = xs.map encN := fun xs hx => List.take_of_length_le (by simp [hx])
    by_cases hq : sumI (weights ls) = 0 ∨ room = sumI out
    · have hsz : sizes ls out room = out := by
        rw [sizes, if_neg h1]
        split
        · rfl
        · rcases hq with hq | hq
          · contradiction
          · rw [show room - sumI out = 0 by omega]; exact spread0 hall
      rw [hsz]
      refine ACon.introW tok (nt := 116) Tryz.func105 rfl rfl rfl (by kernel_rfl) rfl ?_
      repeat' (first | ((with_reducible apply xsim); (first | ((with_reducible apply xo); exact rfl) | with_reducible apply xend | ((with_reducible apply xguardS); exact rfl; exact rfl) | ((with_reducible apply xcallIs); exact rfl; exact rfl; (first | exact cw | exact csw); exact rfl) | ((with_reducible apply xcallLend [0]); exact rfl; exact cs; (focus (first | exact rfl | (simp -implicitDefEqProofs only [go_sem, ↓reduceIte, Nat.reduceEqDiff, List.length_map, hol, htk out hol]; done))); exact rfl; exact rfl) | ((with_reducible apply xcallOwn); exact rfl; exact rfl; exact cr; simp only [bkL, Nat.reduceAdd, Nat.reduceSub]))) | ((with_reducible apply xaw); (first | ((with_reducible apply xstepS); refine AW.step tok rfl ?_) | with_reducible (first | refine AW.seq ?_ | refine AW.block ?_ | refine AW.skip ?_) | ((with_reducible apply xcond); exact rfl))) | with_reducible refine xthen ?_ | (with_reducible intro hc; (try simp only [hcL, reduceCtorEq, List.length_map, hol, htk out hol] at hc); (try (exfalso; omega))) | with_reducible (first | exact trivial | refine And.intro ?_ ?_ | exact rfl) | (refine inR_i64.mpr ?_; first | omega | (simp only [List.length_map, List.length_map, hol, htk out hol]; omega)))
      all_goals
        refine AW.loop (S := fun r : Nat => ⟨[(0, .d (.lst (ls.map encLine))), (7, .msl 0 1 0 ls.length), (12, .d (.int .i64 (sumI out - room)))], [.arr 1 (out.map encN)], 116, .p 0⟩)
          (Pre := fun r => True) (μ := fun r => r) 0 trivial ?_ ?_
        · (refine xwk (π := [0]) (by decide) rfl ?_ ?_; (first | simp -implicitDefEqProofs only [go_sem, hol]); repeat' (first | exact renE_n | ((with_reducible apply renE_c); exact rfl; focus (first | (simp -implicitDefEqProofs only [go_sem, hol]; done)))))
        intro r _
        repeat' (first | ((with_reducible apply xsim); (first | ((with_reducible apply xo); exact rfl) | with_reducible apply xend)) | ((with_reducible apply xaw); (first | ((with_reducible apply xstepS); refine AW.step tok rfl ?_) | with_reducible (first | refine AW.seq ?_ | refine AW.ret ?_ | refine AW.exit ?_) | ((with_reducible apply xcond); exact rfl))) | with_reducible (first | refine xthen ?_ | refine xthen_e ?_ | refine xblock_e ?_ | refine xround_e ?_) | (with_reducible intro hc; (try simp only [hcL, reduceCtorEq] at hc); (try (exfalso; omega))) | with_reducible (first | exact trivial | refine And.intro ?_ ?_ | exact rfl))
        (refine xfinOwn [0] (by first | exact .inl rfl | exact .inr rfl) rfl (by repeat' (first | exact trivial | exact rfl | refine And.intro ?_ ?_)) (by decide) rfl ?_ ?_ <;> simp -implicitDefEqProofs only [go_sem, hol])
    have hq1 : sumI (weights ls) ≠ 0 := fun h => hq (.inl h)
    have hq2 : room ≠ sumI out := fun h => hq (.inr h)
    have hsd := sizes_ok h ho hr
    have hsz : sizes ls out room = putN (spread (room - sumI out) (weights ls)) 0 out.length out := by rw [sizes, if_neg h1, if_neg hq1]
    have csp := c_spreadI (room - sumI out) (weights ls) (by omega) hall
    have hpl : (spread (room - sumI out) (weights ls)).length = ls.length := by rw [spread_len, hwl]
    have hpb := spread_bd hall (n := room - sumI out) (by omega)
    have hful := (hsd.sum hq1).2 (by omega)
    have hbd := hsd.bd
    have hlen := hsd.len
    rw [hsz] at hful hbd hlen
    rw [hsz]
    rw [hol] at hful hbd hlen ⊢
    generalize spread (room - sumI out) (weights ls) = ps at *
    have csf := c_sum (putN ps 0 ls.length out) ⟨by omega, fun x hx => by have := hbd x hx; omega⟩
    have ht2 := htk _ hlen
    refine ACon.introW tok (nt := 116) Tryz.func105 rfl rfl rfl (by kernel_rfl) rfl ?_
    repeat' (first | ((with_reducible apply xsim); (first | ((with_reducible apply xo); exact rfl) | with_reducible apply xend | ((with_reducible apply xguardS); exact rfl; exact rfl) | ((with_reducible apply xcallIs); exact rfl; exact rfl; (first | exact cw | exact csw); exact rfl) | ((with_reducible apply xcallLend [0]); exact rfl; exact cs; (focus (first | exact rfl | (simp -implicitDefEqProofs only [go_sem, ↓reduceIte, Nat.reduceEqDiff, List.length_map, hol, htk out hol]; done))); exact rfl; exact rfl) | ((with_reducible apply xcallOwn); exact rfl; exact rfl; exact cr; simp only [bkL, Nat.reduceAdd, Nat.reduceSub]) | ((with_reducible apply xcallOwn); exact rfl; exact rfl; exact csp; simp only [bkL, Nat.reduceAdd, Nat.reduceSub]))) | ((with_reducible apply xaw); (first | ((with_reducible apply xstepS); refine AW.step tok rfl ?_) | with_reducible (first | refine AW.seq ?_ | refine AW.block ?_) | ((with_reducible apply xcond); exact rfl))) | (with_reducible intro hc; (try simp only [hcL, reduceCtorEq, List.length_map, hol, htk out hol] at hc); (try (exfalso; omega))) | with_reducible (first | exact trivial | refine And.intro ?_ ?_ | exact rfl) | exact Eq.refl true | (refine inR_i64.mpr ?_; first | omega | (simp only [List.length_map, List.length_map, hol, htk out hol]; omega)))
    refine AW.loop (S := fun i : Nat => ⟨[(0, .d (.lst (ls.map encLine))), (2, .d (.int .i64 room)), (7, .msl 0 1 0 ls.length), (36, .msl 1 1 0 ls.length), (37, .d (.int .i64 ls.length)), (38, .d (.int .i64 i))], [.arr 1 ((putN ps 0 i out).map encN), .arr 1 (ps.map encN)], 116, .p 0⟩)
      (Pre := fun i => i ≤ ls.length) (μ := fun i => ls.length - i) 0 (Nat.zero_le _) ?_ ?_
    · (refine xwk (π := [0, 1]) (by decide) rfl ?_ ?_; (first | simp -implicitDefEqProofs only [go_sem, putN_zero, hpl, hol]); repeat' (first | exact renE_n | ((with_reducible apply renE_c); exact rfl; focus (first | (simp -implicitDefEqProofs only [go_sem, putN_zero, hpl, hol]; done)))))
    intro i hi
    by_cases hil : i < ls.length
    · have hrp := at_map (f := encN) (xs := ps) (k := i) (by omega)
      have hp := hpb _ (List.getElem_mem (show i < ps.length by omega))
      have hob := ho.bd _ (List.getElem_mem (show i < out.length by omega))
      have hat := putN_at (ps := ps) (out := out) (a := 0) (k := i) (by omega)
      have hset := putN_set (ps := ps) (out := out) (a := 0) (k := i) (by omega) (by omega)
      simp only [Nat.zero_add] at hat hset
      have hz : ((putN ps 0 i out).map encN)[i]? = some [.int .i64 (out[i]'(by omega))] := by rw [List.getElem?_map, hat]; rfl
      have hset2 : ((putN ps 0 i out).map encN).set i [.int .i64 (out[i]'(by omega) + ps[i]'(by omega))] = (putN ps 0 (i + 1) out).map encN := by rw [← hset, List.map_set]; rfl
      repeat' (first | ((with_reducible apply xsim); (first | ((with_reducible apply xo); exact rfl) | with_reducible apply xend | ((with_reducible apply xidxM); exact rfl; exact rfl; exact rfl; omega; omega; exact rfl) | ((with_reducible apply xldA); exact rfl; exact rfl; exact rfl; (first | exact hrp | exact hz); exact rfl) | ((with_reducible apply xstA); exact rfl; exact rfl; exact rfl; exact rfl; (first | exact hrp | exact hz); exact rfl; exact rfl; exact rfl; exact rfl; (try simp only [List.set_cons_zero, List.set_cons_succ])))) | ((with_reducible apply xaw); (first | ((with_reducible apply xstepS); refine AW.step tok rfl ?_) | ((with_reducible apply xstep); refine AW.region tok rfl ?_) | with_reducible (first | refine AW.seq ?_ | refine AW.block ?_ | refine AW.skip ?_) | ((with_reducible apply xcond); exact rfl))) | with_reducible (first | refine xthen ?_ | refine xblock ?_) | (with_reducible intro hc; (try simp only [hcL, reduceCtorEq] at hc); (try (exfalso; omega))) | with_reducible (first | exact trivial | refine And.intro ?_ ?_ | exact rfl) | (refine inR_i64.mpr ?_; first | omega | (simp only [List.length_map]; omega)))
      refine round_end (i+1) hil (by omega) (by (refine xwk (π := [0, 1]) (by decide) rfl ?_ ?_; (first | simp -implicitDefEqProofs only [go_sem, hset2]); repeat' (first | exact renE_n | ((with_reducible apply renE_c); exact rfl; focus (first | (simp -implicitDefEqProofs only [go_sem, hset2]; done))))))
    have hi' : i = ls.length := by omega
    subst hi'
    repeat' (first | ((with_reducible apply xsim); (first | ((with_reducible apply xo); exact rfl) | with_reducible apply xend | ((with_reducible apply xcallLend [0]); exact rfl; exact csf; (focus (first | exact rfl | (simp -implicitDefEqProofs only [go_sem, ↓reduceIte, Nat.reduceEqDiff, List.length_map, hlen, ht2]; done))); exact rfl; exact rfl))) | ((with_reducible apply xaw); (first | ((with_reducible apply xstepS); refine AW.step tok rfl ?_) | with_reducible (first | refine AW.seq ?_ | refine AW.block ?_ | refine AW.exit ?_) | ((with_reducible apply xcond); exact rfl))) | with_reducible (first | refine xthen ?_ | refine xthen_e ?_ | refine xblock_e ?_ | refine xround_e ?_) | (with_reducible intro hc; (try simp only [hcL, reduceCtorEq, List.length_map, hlen, ht2] at hc); (try (exfalso; omega))) | with_reducible (first | exact trivial | refine And.intro ?_ ?_ | exact rfl) | (refine inR_i64.mpr ?_; first | omega | (simp only [List.length_map, List.length_map, hlen, ht2]; omega)))
    refine AW.loop (S := fun r : Nat => ⟨[(0, .d (.lst (ls.map encLine))), (7, .msl 0 1 0 ls.length), (12, .d (.int .i64 (sumI (putN ps 0 ls.length out) - room)))], [.arr 1 ((putN ps 0 ls.length out).map encN)], 116, .p 0⟩)
      (Pre := fun r => True) (μ := fun r => r) 0 trivial ?_ ?_
    · (refine xwk (π := [0]) (by decide) rfl ?_ ?_; (first | simp -implicitDefEqProofs only [go_sem]); repeat' (first | exact renE_n | ((with_reducible apply renE_c); exact rfl; focus (first | (simp -implicitDefEqProofs only [go_sem]; done)))))
    intro r _
    repeat' (first | ((with_reducible apply xsim); (first | ((with_reducible apply xo); exact rfl) | with_reducible apply xend)) | ((with_reducible apply xaw); (first | ((with_reducible apply xstepS); refine AW.step tok rfl ?_) | with_reducible (first | refine AW.seq ?_ | refine AW.ret ?_ | refine AW.exit ?_) | ((with_reducible apply xcond); exact rfl))) | with_reducible (first | refine xthen ?_ | refine xthen_e ?_ | refine xblock_e ?_ | refine xround_e ?_) | (with_reducible intro hc; (try simp only [hcL, reduceCtorEq] at hc); (try (exfalso; omega))) | with_reducible (first | exact trivial | refine And.intro ?_ ?_ | exact rfl))
    (refine xfinOwn [0] (by first | exact .inl rfl | exact .inr rfl) rfl (by repeat' (first | exact trivial | exact rfl | refine And.intro ?_ ?_)) (by decide) rfl ?_ ?_ <;> simp -implicitDefEqProofs only [go_sem, hlen])
end Go.Proofs.YtpfhnhhkfobjnaaGreat

namespace Go.Proofs.YtpfhnhhkfobjnaaGreat
open Go.Fw
attribute [local irreducible] Go.Fw.aops Go.Fw.arun

set_option maxHeartbeats 4000000 in
theorem c_shrunk (ls : List Line) (out : List Int) (n0 : Int) (h : LOk ls) (ho : SInv ls out) (hn0 : 0 ≤ n0 ∧ n0 ≤ 2^27) : ACon Tryz.prog 153 [.d (.lst (ls.map encLine)), .d (.lst (out.map encN)), .d (.int .i64 n0)] [] (ONums (shrinkTo ls out n0 n0.toNat).1) := by
  have hlo := h.lo; have hhi := h.hi
  have hol := ho.len
  have htk : ∀ xs : List Int, xs.length = ls.length → List.take ls.length (xs.map encN) = xs.map encN := fun xs hx => List.take_of_length_le (by simp [hx])
  have hS := shr_of h ho hn0.1
  have hT0 : shrinkTo ls out n0 0 = (out, n0) := rfl
  obtain ⟨T, hT⟩ : ∃ T, shrinkTo ls out n0 = T := ⟨_, rfl⟩
  rw [hT] at hS hT0 ⊢
  have hsz : (T n0.toNat).1 = (T n0.toNat).1 := rfl
  refine ACon.introW tok (nt := 86) Tryz.func153 rfl rfl rfl (by kernel_rfl) rfl ?_
  repeat' (first | ((with_reducible apply xsim); (first | ((with_reducible apply xo); exact rfl) | with_reducible apply xend | ((with_reducible apply xbuild); exact rfl; exact rfl; exact rfl; exact rfl; exact rfl; simp only [bkL, Nat.reduceAdd, Nat.reduceSub]) | simp -implicitDefEqProofs only [go_sem, List.length_map])) | ((with_reducible apply xaw); (first | ((with_reducible apply xstepS); refine AW.step tok rfl ?_) | with_reducible (first | refine AW.seq ?_ | refine AW.block ?_))) | with_reducible (first | exact trivial | refine And.intro ?_ ?_) | omega)
  refine AW.loop (S := fun r : Nat => ⟨[(0, .d (.lst (ls.map encLine))), (2, .d (.int .i64 (T r).2)), (7, .msl 0 1 0 ls.length)], [.arr 1 ((T r).1.map encN)], 86, .p 0⟩)
    (Pre := fun r => (T r).2 + r ≤ n0) (μ := fun r => (T r).2.toNat) 0 (by rw [hT0]; simp) ?_ ?_
  · (refine xwk (π := [1]) (by decide) rfl ?_ ?_; (first | simp -implicitDefEqProofs only [go_sem, hT0, hol]); repeat' (first | exact renE_n | ((with_reducible apply renE_c); exact rfl; focus (first | (simp -implicitDefEqProofs only [go_sem, hT0, hol]; done)))))
  intro r hpre
  obtain ⟨i1, i2, i3⟩ := hS.inv r
  have hsu := hS.succ r
  have hrun := hS.run r hpre
  have hdn := hS.done r hpre
  by_cases hpos : ¬ 0 < (T r).2
  · have hfin := hdn (fun hc => hpos hc.1)
    have hsz := congrArg Prod.fst hfin; (try dsimp only at hsz)
    repeat' (first | ((with_reducible apply xsim); (first | ((with_reducible apply xo); exact rfl) | with_reducible apply xend)) | ((with_reducible apply xaw); (first | ((with_reducible apply xstepS); refine AW.step tok rfl ?_) | with_reducible (first | refine AW.seq ?_ | refine AW.ret ?_ | refine AW.exit ?_) | ((with_reducible apply xcond); exact rfl))) | with_reducible (first | refine xthen ?_ | refine xthen_e ?_ | refine xblock_e ?_ | refine xround_e ?_) | (with_reducible intro hc; (try simp only [hcL, reduceCtorEq] at hc); (try (exfalso; omega))) | with_reducible (first | exact trivial | refine And.intro ?_ ?_ | exact rfl))
    (refine xfinOwn [0] (by first | exact .inl rfl | exact .inr rfl) rfl (by repeat' (first | exact trivial | exact rfl | refine And.intro ?_ ?_)) (by decide) rfl ?_ ?_ <;> simp -implicitDefEqProofs only [go_sem, hsz, i1.len])
  replace hpos : 0 < (T r).2 := by omega
  generalize hTr : T r = st at *
  obtain ⟨ys, n⟩ := st
  dsimp only at i1 i2 i3 hpre hsu hrun hdn hpos ⊢
  have hyl := i1.len
  have hnl := nowW_len hyl
  have hno := nowW_ok h hyl
  have hnb := hno.nums.sum _ (Nat.le_refl _)
  rw [List.take_length, hnl] at hnb
  have csn := c_total (nowW ls ys) hno.nums
  have hsb := sum50 i1.toROk hhi
  repeat' (first | ((with_reducible apply xsim); (first | ((with_reducible apply xlenM); exact rfl; exact rfl) | ((with_reducible apply xo); exact rfl) | with_reducible apply xend | simp -implicitDefEqProofs only [go_sem, List.length_map, hyl, List.length_replicate])) | ((with_reducible apply xaw); (first | ((with_reducible apply xstepS); refine AW.step tok rfl ?_) | with_reducible (first | refine AW.seq ?_ | refine AW.block ?_ | refine AW.skip ?_) | ((with_reducible apply xcond); exact rfl))) | with_reducible refine xthen ?_ | (with_reducible intro hc; (try simp only [hcL, reduceCtorEq, List.length_map, hyl, List.length_replicate] at hc); (try (exfalso; omega))) | with_reducible (first | exact trivial | refine And.intro ?_ ?_ | exact rfl) | omega)
  refine AW.loop (S := fun k : Nat => ⟨[(0, .d (.lst (ls.map encLine))), (2, .d (.int .i64 n)), (7, .msl 0 1 0 ls.length), (8, .msl 1 1 0 ls.length), (9, .d (.int .i64 k))], [.arr 1 (ys.map encN), .arr 1 (fillRows encN zN (nowW ls ys) k)], 86, .p 0⟩)
    (Pre := fun k => k ≤ ls.length) (μ := fun k => ls.length - k) 0 (Nat.zero_le _) ?_ ?_
  · (refine xwk (π := [0, 1]) (by decide) rfl ?_ ?_; (first | simp -implicitDefEqProofs only [go_sem, fillRows_zero, zN, hnl]); repeat' (first | exact renE_n | ((with_reducible apply renE_c); exact rfl; focus (first | (simp -implicitDefEqProofs only [go_sem, fillRows_zero, zN, hnl]; done)))))
  intro k hk
  by_cases hkl : k < ls.length
  · have hrow := at_map (f := encLine) hkl
    have hry := at_map (f := encN) (xs := ys) (k := k) (by omega)
    have hz := fillRows_at (enc := encN) (z := zN) (show k < (nowW ls ys).length by omega)
    have hset := fillRows_set (enc := encN) (z := zN) (show k < (nowW ls ys).length by omega)
    have hskip := fill_skip hyl hkl
    rw [nowW_at hkl (by omega)] at hset
    by_cases hc : ls[k].min < ys[k]
    · rw [if_pos hc] at hset
      simp only [encN] at hset
      repeat' (first | ((with_reducible apply xsim); (first | ((with_reducible apply xlenM); exact rfl; exact rfl) | ((with_reducible apply xo); exact rfl) | with_reducible apply xend | ((with_reducible apply xidxL); exact rfl; exact rfl; exact rfl; (first | exact hrow | exact hry | exact hz); omega; first | exact rfl | simp only [hsz]) | ((with_reducible apply xidxM); exact rfl; exact rfl; exact rfl; omega; omega; exact rfl) | ((with_reducible apply xldA); exact rfl; exact rfl; exact rfl; (first | exact hrow | exact hry | exact hz); exact rfl) | ((with_reducible apply xstA); exact rfl; exact rfl; exact rfl; exact rfl; (first | exact hrow | exact hry | exact hz); exact rfl; exact rfl; exact rfl; exact rfl; (try simp only [List.set_cons_zero, List.set_cons_succ, List.length_map])))) | ((with_reducible apply xaw); (first | ((with_reducible apply xstepS); refine AW.step tok rfl ?_) | ((with_reducible apply xstep); refine AW.region tok rfl ?_) | with_reducible (first | refine AW.seq ?_ | refine AW.block ?_ | refine AW.skip ?_) | ((with_reducible apply xcond); exact rfl) | ((with_reducible apply xdraw (id := 7)); refine AW.draw (id := 7) (.q 0 (.q 1 (.q 2 (.q 3 (.q 4 (.q 5 (.q 6 (.q 7 (.q 8 (.q 9 (.fin))))))))))) tok (by kernel_rfl) rfl (by kernel_rfl) ?_))) | ((with_reducible apply xarun); (first | ((with_reducible apply xrun_q); exact rfl; exact rfl; exact rfl) | with_reducible apply xrun_f)) | with_reducible (first | refine xthen ?_ | refine xblock ?_) | (with_reducible intro hc; (try simp only [hcL, reduceCtorEq, List.length_map] at hc); (try (exfalso; omega))) | with_reducible (first | exact trivial | refine And.intro ?_ ?_ | exact rfl) | (refine inR_i64.mpr ?_; first | omega | (simp only [List.length_map, List.length_map]; omega)))
      all_goals refine round_end (k+1) hkl (by omega) (by (refine xwk (π := [0, 1]) (by decide) rfl ?_ ?_; (first | simp -implicitDefEqProofs only [go_sem, hset]); repeat' (first | exact renE_n | ((with_reducible apply renE_c); exact rfl; focus (first | (simp -implicitDefEqProofs only [go_sem, hset]; done))))))
    · have hskip := hskip hc
      repeat' (first | ((with_reducible apply xsim); (first | ((with_reducible apply xlenM); exact rfl; exact rfl) | ((with_reducible apply xo); exact rfl) | with_reducible apply xend | ((with_reducible apply xidxL); exact rfl; exact rfl; exact rfl; (first | exact hrow | exact hry | exact hz); omega; first | exact rfl | simp only [hsz]) | ((with_reducible apply xidxM); exact rfl; exact rfl; exact rfl; omega; omega; exact rfl) | ((with_reducible apply xldA); exact rfl; exact rfl; exact rfl; (first | exact hrow | exact hry | exact hz); exact rfl))) | ((with_reducible apply xaw); (first | ((with_reducible apply xstepS); refine AW.step tok rfl ?_) | ((with_reducible apply xstep); refine AW.region tok rfl ?_) | with_reducible (first | refine AW.seq ?_ | refine AW.block ?_ | refine AW.skip ?_) | ((with_reducible apply xcond); exact rfl) | ((with_reducible apply xdraw (id := 7)); refine AW.draw (id := 7) (.q 0 (.q 1 (.q 2 (.q 3 (.q 4 (.q 5 (.q 6 (.q 7 (.q 8 (.q 9 (.fin))))))))))) tok (by kernel_rfl) rfl (by kernel_rfl) ?_))) | ((with_reducible apply xarun); (first | ((with_reducible apply xrun_q); exact rfl; exact rfl; exact rfl) | with_reducible apply xrun_f)) | with_reducible (first | refine xthen ?_ | refine xblock ?_) | (with_reducible intro hc; (try simp only [hcL, reduceCtorEq, List.length_map] at hc); (try (exfalso; omega))) | with_reducible (first | exact trivial | refine And.intro ?_ ?_ | exact rfl) | (refine inR_i64.mpr ?_; first | omega | (simp only [List.length_map, List.length_map]; omega)))
      all_goals refine round_end (k+1) hkl (by omega) (by (refine xwk (π := [0, 1]) (by decide) rfl ?_ ?_; (first | simp -implicitDefEqProofs only [go_sem, hskip]); repeat' (first | exact renE_n | ((with_reducible apply renE_c); exact rfl; focus (first | (simp -implicitDefEqProofs only [go_sem, hskip]; done))))))
  have hk' : k = ls.length := by omega
  subst hk'
  have hall := fillRows_all (enc := encN) (z := zN) (xs := nowW ls ys)
  rw [hnl] at hall
  rw [hall]
  have htn := htk (nowW ls ys) hnl
  by_cases h0 : sumI (nowW ls ys) = 0
  · have hfin := hdn (fun hc => hc.2 h0)
    have hsz := congrArg Prod.fst hfin; (try dsimp only at hsz)
    repeat' (first | ((with_reducible apply xsim); (first | ((with_reducible apply xlenM); exact rfl; exact rfl) | ((with_reducible apply xo); exact rfl) | with_reducible apply xend | ((with_reducible apply xcallLend [1]); exact rfl; exact csn; (focus (first | exact rfl | (simp -implicitDefEqProofs only [go_sem, ↓reduceIte, Nat.reduceEqDiff, List.length_map, hnl, htn]; done))); exact rfl; exact rfl))) | ((with_reducible apply xaw); (first | ((with_reducible apply xstepS); refine AW.step tok rfl ?_) | with_reducible (first | refine AW.seq ?_ | refine AW.ret ?_ | refine AW.exit ?_) | ((with_reducible apply xcond); exact rfl))) | with_reducible (first | refine xthen ?_ | refine xthen_r ?_ | refine xthen_e ?_ | refine xblock_r ?_ | refine xblock_e ?_ | refine xround_r ?_ | refine xround_e ?_) | (with_reducible intro hc; (try simp only [hcL, reduceCtorEq, List.length_map, hnl, htn] at hc); (try (exfalso; omega))) | with_reducible (first | exact trivial | refine And.intro ?_ ?_ | exact rfl))
    all_goals (refine xfinOwn [0] (by first | exact .inl rfl | exact .inr rfl) rfl (by repeat' (first | exact trivial | exact rfl | refine And.intro ?_ ?_)) (by decide) rfl ?_ ?_ <;> simp -implicitDefEqProofs only [go_sem, hsz, hyl])
  have csp := c_spreadS n (nowW ls ys) (by omega) hno
  have hpl : (spread n (nowW ls ys)).length = ls.length := by rw [spread_len, hnl]
  have hpb := spread_bd hno (n := n) (by omega)
  have htl := tks_len (n := n) hyl
  have htb : ∀ i (h1 : i < (tks ls ys n).length) (h3 : i < ys.length) (h4 : i < ls.length), 0 ≤ (tks ls ys n)[i] ∧ (tks ls ys n)[i] ≤ ys[i] - ls[i].min := fun i h1 h3 h4 => tks_bd h i1 (n := n) (by omega) (i := i) h4
  have hta : ∀ i (h1 : i < (tks ls ys n).length) (h2 : i < (spread n (nowW ls ys)).length) (h3 : i < ys.length) (h4 : i < ls.length), (tks ls ys n)[i] = min (spread n (nowW ls ys))[i] (ys[i] - ls[i].min) := fun i h1 h2 h3 h4 => tks_at (n := n) hyl (i := i) h4
  have hll := less_len (n := n) hyl
  have hla : ∀ i (h1 : i < (less ls ys n).length) (h2 : i < (tks ls ys n).length) (h3 : i < ys.length), (less ls ys n)[i] = ys[i] - (tks ls ys n)[i] := fun i h1 h2 h3 => less_at (n := n) hyl (i := i) (by omega)
  have htnn := tks_nonneg h i1 (n := n) (by omega)
  have hts := tks_sum h i1 (n := n) (by omega)
  have hsu := hsu hpos h0
  have hrun := hrun hpos h0
  generalize spread n (nowW ls ys) = ps at *
  generalize tks ls ys n = tk at *
  generalize less ls ys n = zs at *
  repeat' (first | ((with_reducible apply xsim); (first | ((with_reducible apply xlenM); exact rfl; exact rfl) | ((with_reducible apply xo); exact rfl) | with_reducible apply xend | ((with_reducible apply xcallLend [1]); exact rfl; exact csn; (focus (first | exact rfl | (simp -implicitDefEqProofs only [go_sem, ↓reduceIte, Nat.reduceEqDiff, List.length_map, hnl, htn]; done))); exact rfl; exact rfl) | ((with_reducible apply xcallOwnLend [1]); exact rfl; exact csp; (focus (first | exact rfl | (simp -implicitDefEqProofs only [go_sem, ↓reduceIte, Nat.reduceEqDiff, List.length_map, hnl, htn]; done))); (focus (first | exact ⟨rfl, flat1 (fun _ => rfl)⟩ | (simp -implicitDefEqProofs only [go_sem]; done))); simp only [bkL, Nat.reduceAdd, Nat.reduceSub]))) | ((with_reducible apply xaw); (first | ((with_reducible apply xstepS); refine AW.step tok rfl ?_) | with_reducible (first | refine AW.seq ?_ | refine AW.block ?_ | refine AW.skip ?_ | refine AW.exit ?_) | ((with_reducible apply xcond); exact rfl))) | with_reducible (first | refine xthen ?_ | refine xthen_e ?_ | refine xblock_e ?_ | refine xround_e ?_) | (with_reducible intro hc; (try simp only [hcL, reduceCtorEq, List.length_map, hnl, htn] at hc); (try (exfalso; omega))) | with_reducible (first | exact trivial | refine And.intro ?_ ?_ | exact rfl))
  refine AW.loop (S := fun i : Nat => ⟨[(0, .d (.lst (ls.map encLine))), (2, .d (.int .i64 (n - sumI (tk.take i)))), (7, .msl 0 1 0 ls.length), (10, .msl 1 1 0 ls.length), (11, .d (.int .i64 i))], [.arr 1 ((mix zs ys i).map encN), .arr 1 (ps.map encN)], 86, .p 0⟩)
    (Pre := fun i => i ≤ ls.length) (μ := fun i => ls.length - i) 0 (Nat.zero_le _) ?_ ?_
  · (refine xwk (π := [0, 2]) (by decide) rfl ?_ ?_; (first | simp -implicitDefEqProofs only [go_sem, mix_zero, List.take_zero, sumI, Int.sub_zero, hpl]); repeat' (first | exact renE_n | ((with_reducible apply renE_c); exact rfl; focus (first | (simp -implicitDefEqProofs only [go_sem, mix_zero, List.take_zero, sumI, Int.sub_zero, hpl]; done)))))
  intro i hi
  by_cases hil : i < ls.length
  · have hrow := at_map (f := encLine) hil
    have hrp := at_map (f := encN) (xs := ps) (k := i) (by omega)
    have hmx := mixmap_at (f := encN) (ys := zs) (zs := ys) (k := i) (by omega) (by omega)
    have hset := mixmap_set (f := encN) (ys := zs) (zs := ys) (k := i) (by omega) (by omega)
    have a1 := hta i (by omega) (by omega) (by omega) hil
    have a2 := hla i (by omega) (by omega) (by omega)
    have a3 := htb i (by omega) (by omega) hil
    have a4 := sumI_take (xs := tk) (k := i) (by omega)
    have a5 := sumI_nonneg (xs := tk.take i) (fun x hx => htnn x (List.mem_of_mem_take hx))
    have a6 := sumI_nonneg (xs := tk.take (i + 1)) (fun x hx => htnn x (List.mem_of_mem_take hx))
    have a7 := take_all htnn (a := i)
    have a8 := take_all htnn (a := i + 1)
    have a9 := hpb _ (List.getElem_mem (show i < ps.length by omega))
    have b1 := i1.bd _ (List.getElem_mem (show i < ys.length by omega))
    have b2 := h.ok _ (List.getElem_mem hil)
    rw [a2, a1] at hset
    rw [a1] at a4
    simp only [encN] at hset
    repeat' (first | ((with_reducible apply xsim); (first | ((with_reducible apply xo); exact rfl) | with_reducible apply xend | ((with_reducible apply xidxL); exact rfl; exact rfl; exact rfl; (first | exact hrow | exact hrp | exact hmx); omega; first | exact rfl | simp only [hsz]) | ((with_reducible apply xidxM); exact rfl; exact rfl; exact rfl; omega; omega; exact rfl) | ((with_reducible apply xldA); exact rfl; exact rfl; exact rfl; (first | exact hrow | exact hrp | exact hmx); exact rfl) | ((with_reducible apply xstA); exact rfl; exact rfl; exact rfl; exact rfl; (first | exact hrow | exact hrp | exact hmx); exact rfl; exact rfl; exact rfl; exact rfl; (try simp only [List.set_cons_zero, List.set_cons_succ, List.length_map])))) | ((with_reducible apply xaw); (first | ((with_reducible apply xstepS); refine AW.step tok rfl ?_) | ((with_reducible apply xstep); refine AW.region tok rfl ?_) | with_reducible (first | refine AW.seq ?_ | refine AW.block ?_ | refine AW.skip ?_) | ((with_reducible apply xcond); exact rfl) | ((with_reducible apply xdraw (id := 15)); refine AW.draw (id := 15) (.q 0 (.q 1 (.q 2 (.q 3 (.q 4 (.q 5 (.q 6 (.q 7 (.q 8 (.q 9 (.q 10 (.q 11 (.q 12 (.q 13 (.q 14 (.q 15 (.fin))))))))))))))))) tok (by kernel_rfl) rfl (by kernel_rfl) ?_))) | ((with_reducible apply xarun); (first | ((with_reducible apply xrun_q); exact rfl; exact rfl; exact rfl) | with_reducible apply xrun_f)) | with_reducible (first | refine xthen ?_ | refine xblock ?_) | (with_reducible intro hc; (try simp only [hcL, reduceCtorEq, List.length_map] at hc); (try (exfalso; omega))) | with_reducible (first | exact trivial | refine And.intro ?_ ?_ | exact rfl) | exact Eq.refl true | (refine inR_i64.mpr ?_; first | omega | (simp only [List.length_map, List.length_map]; omega)))
    all_goals refine round_end (i+1) hil (by omega) (by (refine xwk (π := [0, 1]) (by decide) rfl ?_ ?_; (first | simp -implicitDefEqProofs only [go_sem, hset, a4, Int.sub_sub]); repeat' (first | exact renE_n | ((with_reducible apply renE_c); exact rfl; focus (first | (simp -implicitDefEqProofs only [go_sem, hset, a4, Int.sub_sub]; done))))))
  have hi' : i = ls.length := by omega
  subst hi'
  have hall2 := mix_all (ys := zs) (zs := ys) (by omega)
  rw [hll] at hall2
  have htk2 : tk.take ls.length = tk := by rw [← htl, List.take_length]
  repeat' (first | ((with_reducible apply xsim); (first | ((with_reducible apply xo); exact rfl) | with_reducible apply xend)) | ((with_reducible apply xaw); (first | ((with_reducible apply xstepS); refine AW.step tok rfl ?_) | with_reducible (first | refine AW.seq ?_ | refine AW.exit ?_) | ((with_reducible apply xcond); exact rfl))) | with_reducible (first | refine xthen_e ?_ | refine xblock ?_ | refine xblock_e ?_ | refine xround_e ?_) | (with_reducible intro hc; (try simp only [hcL, reduceCtorEq] at hc); (try (exfalso; omega))) | with_reducible (first | exact trivial | refine And.intro ?_ ?_ | exact rfl) | exact Eq.refl true)
  refine round_end (r+1) hrun.1 (by rw [hTr]; dsimp only; omega) (by (refine xwk (π := [0]) (by decide) rfl ?_ ?_; (first | simp -implicitDefEqProofs only [go_sem, hsu, hall2, htk2]); repeat' (first | exact renE_n | ((with_reducible apply renE_c); exact rfl; focus (first | (simp -implicitDefEqProofs only [go_sem, hsu, hall2, htk2]; done))))))

theorem c_sized (ls : List Line) (out : List Int) (room : Int) (h : LOk ls) (ho : SInv ls out) (hr : 0 ≤ room ∧ room ≤ 16384) : ACon Tryz.prog 132 [.d (.lst (ls.map encLine)), .d (.lst (out.map encN)), .d (.int .i64 room)] [] (ONums (sizes ls out room)) := by
  have hlo := h.lo; have hhi := h.hi
  have hol := ho.len
  have cw := c_weightsS ls hhi
  have cs := c_total out (ho.toROk.nums hhi)
  have hb := sum50 ho.toROk hhi
  have hall := h.all
  have csw := c_total (weights ls) hall.nums
  have hws := hall.sum
  have hwn := hall.nums.sum _ (Nat.le_refl _)
  have hwl := weights_len ls
  rw [List.take_length, hwl] at hwn
  by_cases h1 : room - sumI out < 0
  · have hsz : sizes ls out room = (shrinkTo ls out (sumI out - room) (sumI out - room).toNat).1 := by rw [sizes, if_pos h1]
    have csh := c_shrunk ls out (sumI out - room) h ho (by omega)
    have hin := (shrink_inv h ho (show 0 ≤ sumI out - room by omega) (sumI out - room).toNat).1.len
    rw [← hsz] at csh hin
    rw [show sumI out - room = 0 - (room - sumI out) by omega] at csh
    refine ACon.introW tok (nt := 53) Tryz.func132 rfl rfl rfl (by kernel_rfl) rfl ?_
    repeat' (first | ((with_reducible apply xsim); (first | ((with_reducible apply xo); exact rfl) | with_reducible apply xend | ((with_reducible apply xcallIs); exact rfl; exact rfl; exact cs; exact rfl) | ((with_reducible apply xcallOwn); exact rfl; exact rfl; exact csh; simp only [bkL, Nat.reduceAdd, Nat.reduceSub]))) | ((with_reducible apply xaw); (first | ((with_reducible apply xstepS); refine AW.step tok rfl ?_) | with_reducible (first | refine AW.seq ?_ | refine AW.ret ?_) | ((with_reducible apply xcond); exact rfl))) | with_reducible refine xthen_r ?_ | (with_reducible intro hc; (try simp only [hcL, reduceCtorEq] at hc); (try (exfalso; omega))) | with_reducible (first | exact trivial | refine And.intro ?_ ?_ | exact rfl) | (refine inR_i64.mpr ?_; first | omega | (simp only [List.length_map]; omega)))
    (refine xfinOwn [0] (by first | exact .inl rfl | exact .inr rfl) rfl (by repeat' (first | exact trivial | exact rfl | refine And.intro ?_ ?_)) (by decide) rfl ?_ ?_ <;> simp -implicitDefEqProofs only [go_sem, hin])
  · by_cases h0 : sumI (weights ls) = 0
    · have hsz : sizes ls out room = out := by rw [sizes, if_neg h1, if_pos h0]
      rw [hsz]
      refine ACon.introW tok (nt := 53) Tryz.func132 rfl rfl rfl (by kernel_rfl) rfl ?_
      repeat' (first | ((with_reducible apply xsim); (first | ((with_reducible apply xo); exact rfl) | with_reducible apply xend | ((with_reducible apply xbuild); exact rfl; exact rfl; exact rfl; exact rfl; exact rfl; simp only [bkL, Nat.reduceAdd, Nat.reduceSub]) | ((with_reducible apply xcallIs); exact rfl; exact rfl; (first | exact cs | exact csw | exact cw); exact rfl) | simp -implicitDefEqProofs only [go_sem, List.length_map])) | ((with_reducible apply xaw); (first | ((with_reducible apply xstepS); refine AW.step tok rfl ?_) | with_reducible (first | refine AW.seq ?_ | refine AW.skip ?_ | refine AW.ret ?_) | ((with_reducible apply xcond); exact rfl))) | with_reducible (first | refine xthen ?_ | refine xthen_r ?_) | (with_reducible intro hc; (try simp only [hcL, reduceCtorEq, List.length_map] at hc); (try (exfalso; omega))) | with_reducible (first | exact trivial | refine And.intro ?_ ?_ | exact rfl) | (refine inR_i64.mpr ?_; first | omega | (simp only [List.length_map, List.length_map]; omega)) | omega)
      (refine xfinOwn [1] (by first | exact .inl rfl | exact .inr rfl) rfl (by repeat' (first | exact trivial | exact rfl | refine And.intro ?_ ?_)) (by decide) rfl ?_ ?_ <;> simp -implicitDefEqProofs only [go_sem])
    have hsd := sizes_ok h ho hr
    have hsz : sizes ls out room = putN (spread (room - sumI out) (weights ls)) 0 out.length out := by rw [sizes, if_neg h1, if_neg h0]
    have csp := c_spreadS (room - sumI out) (weights ls) (by omega) hall
    have hpl : (spread (room - sumI out) (weights ls)).length = ls.length := by rw [spread_len, hwl]
    have hpb := spread_bd hall (n := room - sumI out) (by omega)
    have hlen := hsd.len
    rw [hsz] at hlen
    rw [hsz]
    rw [hol] at hlen ⊢
    generalize spread (room - sumI out) (weights ls) = ps at *
    refine ACon.introW tok (nt := 53) Tryz.func132 rfl rfl rfl (by kernel_rfl) rfl ?_
    repeat' (first | ((with_reducible apply xsim); (first | ((with_reducible apply xo); exact rfl) | with_reducible apply xend | ((with_reducible apply xbuild); exact rfl; exact rfl; exact rfl; exact rfl; exact rfl; simp only [bkL, Nat.reduceAdd, Nat.reduceSub]) | ((with_reducible apply xcallIs); exact rfl; exact rfl; (first | exact cs | exact csw | exact cw); exact rfl) | ((with_reducible apply xcallOwn); exact rfl; exact rfl; exact csp; simp only [bkL, Nat.reduceAdd, Nat.reduceSub]) | simp -implicitDefEqProofs only [go_sem, List.length_map])) | ((with_reducible apply xaw); (first | ((with_reducible apply xstepS); refine AW.step tok rfl ?_) | with_reducible (first | refine AW.seq ?_ | refine AW.block ?_ | refine AW.skip ?_) | ((with_reducible apply xcond); exact rfl))) | with_reducible refine xthen ?_ | (with_reducible intro hc; (try simp only [hcL, reduceCtorEq, List.length_map] at hc); (try (exfalso; omega))) | with_reducible (first | exact trivial | refine And.intro ?_ ?_ | exact rfl) | (refine inR_i64.mpr ?_; first | omega | (simp only [List.length_map, List.length_map]; omega)) | omega)
    refine AW.loop (S := fun i : Nat => ⟨[(8, .msl 0 1 0 ls.length), (9, .msl 1 1 0 ls.length), (10, .d (.int .i64 i))], [.arr 1 ((putN ps 0 i out).map encN), .arr 1 (ps.map encN)], 53, .p 0⟩)
      (Pre := fun i => i ≤ ls.length) (μ := fun i => ls.length - i) 0 (Nat.zero_le _) ?_ ?_
    · (refine xwk (π := [1, 2]) (by decide) rfl ?_ ?_; (first | simp -implicitDefEqProofs only [go_sem, putN_zero, hpl, hol]); repeat' (first | exact renE_n | ((with_reducible apply renE_c); exact rfl; focus (first | (simp -implicitDefEqProofs only [go_sem, putN_zero, hpl, hol]; done)))))
    intro i hi
    by_cases hil : i < ls.length
    · have hrp := at_map (f := encN) (xs := ps) (k := i) (by omega)
      have hp := hpb _ (List.getElem_mem (show i < ps.length by omega))
      have hob := ho.bd _ (List.getElem_mem (show i < out.length by omega))
      have hat := putN_at (ps := ps) (out := out) (a := 0) (k := i) (by omega)
      have hset := putN_set (ps := ps) (out := out) (a := 0) (k := i) (by omega) (by omega)
      simp only [Nat.zero_add] at hat hset
      have hz : ((putN ps 0 i out).map encN)[i]? = some [.int .i64 (out[i]'(by omega))] := by rw [List.getElem?_map, hat]; rfl
      have hset2 : ((putN ps 0 i out).map encN).set i [.int .i64 (out[i]'(by omega) + ps[i]'(by omega))] = (putN ps 0 (i + 1) out).map encN := by rw [← hset, List.map_set]; rfl
      repeat' (first | ((with_reducible apply xsim); (first | ((with_reducible apply xo); exact rfl) | with_reducible apply xend | ((with_reducible apply xidxM); exact rfl; exact rfl; exact rfl; omega; omega; exact rfl) | ((with_reducible apply xldA); exact rfl; exact rfl; exact rfl; (first | exact hrp | exact hz); exact rfl) | ((with_reducible apply xstA); exact rfl; exact rfl; exact rfl; exact rfl; (first | exact hrp | exact hz); exact rfl; exact rfl; exact rfl; exact rfl; (try simp only [List.set_cons_zero, List.set_cons_succ])))) | ((with_reducible apply xaw); (first | ((with_reducible apply xstepS); refine AW.step tok rfl ?_) | ((with_reducible apply xstep); refine AW.region tok rfl ?_) | with_reducible (first | refine AW.seq ?_ | refine AW.block ?_ | refine AW.skip ?_) | ((with_reducible apply xcond); exact rfl) | ((with_reducible apply xdraw (id := 11)); refine AW.draw (id := 11) (.q 0 (.q 1 (.q 2 (.q 3 (.q 4 (.q 5 (.q 6 (.q 7 (.q 8 (.q 9 (.q 10 (.q 11 (.e 12 (.fin)))))))))))))) tok (by kernel_rfl) rfl (by kernel_rfl) ?_))) | ((with_reducible apply xarun); (first | ((with_reducible apply xrun_q); exact rfl; exact rfl; exact rfl) | ((with_reducible apply xrun_e); exact rfl) | with_reducible apply xrun_f)) | with_reducible (first | refine xthen ?_ | refine xblock ?_) | (with_reducible intro hc; (try simp only [hcL, reduceCtorEq] at hc); (try (exfalso; omega))) | with_reducible (first | exact trivial | refine And.intro ?_ ?_ | exact rfl) | exact Eq.refl true | (refine inR_i64.mpr ?_; first | omega | (simp only [List.length_map]; omega)))
      all_goals refine round_end (i+1) hil (by omega) (by (refine xwk (π := [0, 1]) (by decide) rfl ?_ ?_; (first | simp -implicitDefEqProofs only [go_sem, hset2]); repeat' (first | exact renE_n | ((with_reducible apply renE_c); exact rfl; focus (first | (simp -implicitDefEqProofs only [go_sem, hset2]; done))))))
    have hi' : i = ls.length := by omega
    subst hi'
    repeat' (first | ((with_reducible apply xsim); (first | ((with_reducible apply xo); exact rfl) | with_reducible apply xend)) | ((with_reducible apply xaw); (first | ((with_reducible apply xstepS); refine AW.step tok rfl ?_) | with_reducible (first | refine AW.seq ?_ | refine AW.ret ?_ | refine AW.exit ?_) | ((with_reducible apply xcond); exact rfl))) | with_reducible (first | refine xthen ?_ | refine xthen_e ?_ | refine xblock_e ?_ | refine xround_e ?_) | (with_reducible intro hc; (try simp only [hcL, reduceCtorEq] at hc); (try (exfalso; omega))) | with_reducible (first | exact trivial | refine And.intro ?_ ?_ | exact rfl) | exact Eq.refl true)
    (refine xfinOwn [0] (by first | exact .inl rfl | exact .inr rfl) rfl (by repeat' (first | exact trivial | exact rfl | refine And.intro ?_ ?_)) (by decide) rfl ?_ ?_ <;> simp -implicitDefEqProofs only [go_sem, hlen])
end Go.Proofs.YtpfhnhhkfobjnaaGreat

namespace Go.Proofs.YtpfhnhhkfobjnaaGreat
open Go.Fw
attribute [local irreducible] Go.Fw.aops Go.Fw.arun

theorem colSpans_take {cs : List Cell} {k : Nat} (h : k < cs.length) : (colSpans cs).take (k + 1) = (colSpans cs).take k ++ [colSpan cs[k]] := by
  rw [List.take_succ_eq_append_getElem (by simp [colSpans]; exact h)]; simp [colSpans]
theorem rowSpans_take {cs : List Cell} {k : Nat} (h : k < cs.length) : (rowSpans cs).take (k + 1) = (rowSpans cs).take k ++ [rowSpan cs[k]] := by
  rw [List.take_succ_eq_append_getElem (by simp [rowSpans]; exact h)]; simp [rowSpans]

theorem c_spans (g : Grid) (h : GOk g) : ACon Tryz.prog 104 [vGrid g] [] (Is (.tup [.d (.lst ((colSpans g.cells).map encSpan)), .d (.lst ((rowSpans g.cells).map encSpan))])) := by
  have h8 := h.hi
  have hcl : (colSpans g.cells).length = g.cells.length := by simp [colSpans]
  have hrl : (rowSpans g.cells).length = g.cells.length := by simp [rowSpans]
  refine ACon.introW tok (nt := 46) Tryz.func104 rfl rfl rfl (by kernel_rfl) rfl ?_
  repeat' (first | ((with_reducible apply xsim); (first | ((with_reducible apply xlenM); exact rfl; exact rfl) | ((with_reducible apply xo); exact rfl) | with_reducible apply xend | ((with_reducible apply xbox); exact rfl; simp only [bkL, Nat.reduceAdd, Nat.reduceSub]))) | ((with_reducible apply xaw); (first | ((with_reducible apply xstepS); refine AW.step tok rfl ?_) | with_reducible (first | refine AW.seq ?_ | refine AW.block ?_))) | with_reducible exact trivial)
  refine AW.own 4 3 rfl ?_
  refine AW.own 5 3 rfl ?_
  refine AW.loop (S := fun k : Nat => ⟨[(4, .msl 0 3 0 k), (5, .msl 1 3 0 k), (9, .d (.lst (g.cells.map encCell))), (10, .d (.int .i64 g.cells.length)), (11, .d (.int .i64 k))], [.arr 3 (((colSpans g.cells).take k).map encSpan), .arr 3 (((rowSpans g.cells).take k).map encSpan)], 46, .p 0⟩)
    (Pre := fun k => k ≤ g.cells.length) (μ := fun k => g.cells.length - k) 0 (Nat.zero_le _) ?_ ?_
  · (refine xwk (π := [1, 2]) (by decide) rfl ?_ ?_; (first | simp -implicitDefEqProofs only [go_sem, List.take_zero]); repeat' (first | exact renE_n | ((with_reducible apply renE_c); exact rfl; focus (first | (simp -implicitDefEqProofs only [go_sem, List.take_zero]; done)))))
  intro k hk
  have hc1 : ((colSpans g.cells).take k).length = k := by simp [hcl]; omega
  have hc2 : ((rowSpans g.cells).take k).length = k := by simp [hrl]; omega
  by_cases hlt : k < g.cells.length
  · have hrow := at_map (f := encCell) hlt
    have hs1 := colSpans_take hlt
    have hs2 := rowSpans_take hlt
    have hb := h.ok _ (List.getElem_mem hlt)
    repeat' (first | ((with_reducible apply xsim); (first | ((with_reducible apply xo); exact rfl) | ((with_reducible apply xst); exact rfl) | with_reducible apply xend | ((with_reducible apply xalloc); exact rfl; simp only [bkL, Nat.reduceAdd, Nat.reduceSub]) | ((with_reducible apply xbuild); exact rfl; exact rfl; exact rfl; exact rfl; exact rfl; simp only [bkL, Nat.reduceAdd, Nat.reduceSub]) | ((with_reducible apply xidxL); exact rfl; exact rfl; exact rfl; (first | exact hrow); omega; first | exact rfl | simp only [hsz]) | simp -implicitDefEqProofs only [go_sem, List.length_map, hc1, hc2])) | ((with_reducible apply xaw); (first | ((with_reducible apply xstepS); refine AW.step tok rfl ?_) | ((with_reducible apply xstep); refine AW.region tok rfl ?_) | with_reducible (first | refine AW.seq ?_ | refine AW.block ?_ | refine AW.skip ?_) | ((with_reducible apply xcond); exact rfl))) | with_reducible refine xthen ?_ | (with_reducible intro hc; (try simp only [hcL, reduceCtorEq, List.length_map, hc1, hc2] at hc); (try (exfalso; omega))) | with_reducible (first | exact trivial | refine And.intro ?_ ?_ | exact rfl) | exact Eq.refl true | (refine inR_i64.mpr ?_; first | omega | (simp only [List.length_map, List.length_map, hc1, hc2]; omega)) | omega)
    refine round_end (k+1) hlt (by omega) (by (refine xwk (π := [4, 6]) (by decide) rfl ?_ ?_; (first | simp -implicitDefEqProofs only [go_sem, hs1, hs2, List.map_append, colSpan, rowSpan]); repeat' (first | exact renE_n | ((with_reducible apply renE_c); exact rfl; focus (first | (simp -implicitDefEqProofs only [go_sem, hs1, hs2, List.map_append, colSpan, rowSpan]; done))))))
  have hk' : k = g.cells.length := by omega
  subst hk'
  have t1 : (colSpans g.cells).take g.cells.length = colSpans g.cells := by rw [← hcl, List.take_length]
  have t2 : (rowSpans g.cells).take g.cells.length = rowSpans g.cells := by rw [← hrl, List.take_length]
  rw [t1, t2]
  repeat' (first | ((with_reducible apply xsim); (first | ((with_reducible apply xo); exact rfl) | with_reducible apply xend)) | ((with_reducible apply xaw); (first | ((with_reducible apply xstepS); refine AW.step tok rfl ?_) | with_reducible (first | refine AW.seq ?_ | refine AW.ret ?_ | refine AW.exit ?_) | ((with_reducible apply xcond); exact rfl))) | with_reducible (first | refine xthen ?_ | refine xthen_e ?_ | refine xblock_e ?_ | refine xround_e ?_) | (with_reducible intro hc; (try simp only [hcL, reduceCtorEq, List.length_map] at hc); (try (exfalso; omega))) | with_reducible (first | exact trivial | refine And.intro ?_ ?_ | exact rfl))
  refine xfinW (Weak.freezeA 2 0 3 rfl rfl (by simp [hcl])) ?_
  refine xfinW (Weak.freezeA 3 1 3 rfl rfl (by simp [hrl])) ?_
  (refine xfinIs (by first | exact .inl rfl | exact .inr rfl) rfl (by repeat' (first | exact trivial | exact rfl | refine And.intro ?_ ?_)) rfl ?_ rfl; first | with_reducible exact rfl)

theorem c_colSpansS (g : Grid) (h : GOk g) : ACon Tryz.prog 128 [vGrid g] [] (Is (.d (.lst ((colSpans g.cells).map encSpan)))) := by
  have h8 := h.hi
  have hcl : (colSpans g.cells).length = g.cells.length := by simp [colSpans]
  refine ACon.introW tok (nt := 34) Tryz.func128 rfl rfl rfl (by kernel_rfl) rfl ?_
  repeat' (first | ((with_reducible apply xsim); (first | ((with_reducible apply xo); exact rfl) | with_reducible apply xend | ((with_reducible apply xbox); exact rfl; simp only [bkL, Nat.reduceAdd, Nat.reduceSub]) | ((with_reducible apply xbuild); exact rfl; exact rfl; exact rfl; exact rfl; exact rfl; simp only [bkL, Nat.reduceAdd, Nat.reduceSub]))) | ((with_reducible apply xaw); (first | ((with_reducible apply xstepS); refine AW.step tok rfl ?_) | with_reducible (first | refine AW.seq ?_ | refine AW.block ?_))) | with_reducible exact trivial)
  refine AW.loop (S := fun k : Nat => ⟨[(1, .oref 1 0), (3, .msl 0 3 0 k), (4, .d (.int .i64 k))], [.arr 3 (((colSpans g.cells).take k).map encSpan), .box [.d (.lst (g.cols.map encLine)), .d (.lst (g.rows.map encLine)), .d (.lst (g.cells.map encCell))]], 34, .p 0⟩)
    (Pre := fun k => k ≤ g.cells.length) (μ := fun k => g.cells.length - k) 0 (Nat.zero_le _) ?_ ?_
  · (refine xwk (π := [1, 0]) (by decide) rfl ?_ ?_; (first | simp -implicitDefEqProofs only [go_sem, List.take_zero, encGrid]); repeat' (first | exact renE_n | ((with_reducible apply renE_c); exact rfl; focus (first | (simp -implicitDefEqProofs only [go_sem, List.take_zero, encGrid]; done)))))
  intro k hk
  have hc1 : ((colSpans g.cells).take k).length = k := by simp [hcl]; omega
  by_cases hlt : k < g.cells.length
  · have hrow := at_map (f := encCell) hlt
    have hs1 := colSpans_take hlt
    have hb := h.ok _ (List.getElem_mem hlt)
    repeat' (first | ((with_reducible apply xsim); (first | ((with_reducible apply xlenM); exact rfl; exact rfl) | ((with_reducible apply xo); exact rfl) | ((with_reducible apply xst); exact rfl) | with_reducible apply xend | ((with_reducible apply xalloc); exact rfl; simp only [bkL, Nat.reduceAdd, Nat.reduceSub]) | ((with_reducible apply xbuild); exact rfl; exact rfl; exact rfl; exact rfl; exact rfl; simp only [bkL, Nat.reduceAdd, Nat.reduceSub]) | ((with_reducible apply xidxL); exact rfl; exact rfl; exact rfl; (first | exact hrow); omega; first | exact rfl | simp only [hsz]) | simp -implicitDefEqProofs only [go_sem, List.length_map, hc1])) | ((with_reducible apply xaw); (first | ((with_reducible apply xstepS); refine AW.step tok rfl ?_) | ((with_reducible apply xstep); refine AW.region tok rfl ?_) | with_reducible (first | refine AW.seq ?_ | refine AW.block ?_ | refine AW.skip ?_) | ((with_reducible apply xcond); exact rfl))) | with_reducible refine xthen ?_ | (with_reducible intro hc; (try simp only [hcL, reduceCtorEq, List.length_map, hc1] at hc); (try (exfalso; omega))) | with_reducible (first | exact trivial | refine And.intro ?_ ?_ | exact rfl) | exact Eq.refl true | (refine inR_i64.mpr ?_; first | omega | (simp only [List.length_map, List.length_map, hc1]; omega)) | omega)
    refine round_end (k+1) hlt (by omega) (by (refine xwk (π := [4, 1]) (by decide) rfl ?_ ?_; (first | simp -implicitDefEqProofs only [go_sem, hs1, List.map_append, colSpan]); repeat' (first | exact renE_n | ((with_reducible apply renE_c); exact rfl; focus (first | (simp -implicitDefEqProofs only [go_sem, hs1, List.map_append, colSpan]; done))))))
  have hk' : k = g.cells.length := by omega
  subst hk'
  have t1 : (colSpans g.cells).take g.cells.length = colSpans g.cells := by rw [← hcl, List.take_length]
  rw [t1]
  repeat' (first | ((with_reducible apply xsim); (first | ((with_reducible apply xlenM); exact rfl; exact rfl) | ((with_reducible apply xo); exact rfl) | with_reducible apply xend)) | ((with_reducible apply xaw); (first | ((with_reducible apply xstepS); refine AW.step tok rfl ?_) | with_reducible (first | refine AW.seq ?_ | refine AW.ret ?_ | refine AW.exit ?_) | ((with_reducible apply xcond); exact rfl))) | with_reducible (first | refine xthen ?_ | refine xthen_e ?_ | refine xblock_e ?_ | refine xround_e ?_) | (with_reducible intro hc; (try simp only [hcL, reduceCtorEq, List.length_map] at hc); (try (exfalso; omega))) | with_reducible (first | exact trivial | refine And.intro ?_ ?_ | exact rfl))
  refine xfinW (Weak.freezeA 2 0 3 rfl rfl (by simp [hcl])) ?_
  (refine xfinIs (by first | exact .inl rfl | exact .inr rfl) rfl (by repeat' (first | exact trivial | exact rfl | refine And.intro ?_ ?_)) rfl ?_ rfl; first | with_reducible exact rfl)
theorem c_rowSpansS (g : Grid) (h : GOk g) : ACon Tryz.prog 129 [vGrid g] [] (Is (.d (.lst ((rowSpans g.cells).map encSpan)))) := by
  have h8 := h.hi
  have hcl : (rowSpans g.cells).length = g.cells.length := by simp [rowSpans]
  refine ACon.introW tok (nt := 34) Tryz.func129 rfl rfl rfl (by kernel_rfl) rfl ?_
  repeat' (first | ((with_reducible apply xsim); (first | ((with_reducible apply xo); exact rfl) | with_reducible apply xend | ((with_reducible apply xbox); exact rfl; simp only [bkL, Nat.reduceAdd, Nat.reduceSub]) | ((with_reducible apply xbuild); exact rfl; exact rfl; exact rfl; exact rfl; exact rfl; simp only [bkL, Nat.reduceAdd, Nat.reduceSub]))) | ((with_reducible apply xaw); (first | ((with_reducible apply xstepS); refine AW.step tok rfl ?_) | with_reducible (first | refine AW.seq ?_ | refine AW.block ?_))) | with_reducible exact trivial)
  refine AW.loop (S := fun k : Nat => ⟨[(1, .oref 1 0), (3, .msl 0 3 0 k), (4, .d (.int .i64 k))], [.arr 3 (((rowSpans g.cells).take k).map encSpan), .box [.d (.lst (g.cols.map encLine)), .d (.lst (g.rows.map encLine)), .d (.lst (g.cells.map encCell))]], 34, .p 0⟩)
    (Pre := fun k => k ≤ g.cells.length) (μ := fun k => g.cells.length - k) 0 (Nat.zero_le _) ?_ ?_
  · (refine xwk (π := [1, 0]) (by decide) rfl ?_ ?_; (first | simp -implicitDefEqProofs only [go_sem, List.take_zero, encGrid]); repeat' (first | exact renE_n | ((with_reducible apply renE_c); exact rfl; focus (first | (simp -implicitDefEqProofs only [go_sem, List.take_zero, encGrid]; done)))))
  intro k hk
  have hc1 : ((rowSpans g.cells).take k).length = k := by simp [hcl]; omega
  by_cases hlt : k < g.cells.length
  · have hrow := at_map (f := encCell) hlt
    have hs1 := rowSpans_take hlt
    have hb := h.ok _ (List.getElem_mem hlt)
    repeat' (first | ((with_reducible apply xsim); (first | ((with_reducible apply xlenM); exact rfl; exact rfl) | ((with_reducible apply xo); exact rfl) | ((with_reducible apply xst); exact rfl) | with_reducible apply xend | ((with_reducible apply xalloc); exact rfl; simp only [bkL, Nat.reduceAdd, Nat.reduceSub]) | ((with_reducible apply xbuild); exact rfl; exact rfl; exact rfl; exact rfl; exact rfl; simp only [bkL, Nat.reduceAdd, Nat.reduceSub]) | ((with_reducible apply xidxL); exact rfl; exact rfl; exact rfl; (first | exact hrow); omega; first | exact rfl | simp only [hsz]) | simp -implicitDefEqProofs only [go_sem, List.length_map, hc1])) | ((with_reducible apply xaw); (first | ((with_reducible apply xstepS); refine AW.step tok rfl ?_) | ((with_reducible apply xstep); refine AW.region tok rfl ?_) | with_reducible (first | refine AW.seq ?_ | refine AW.block ?_ | refine AW.skip ?_) | ((with_reducible apply xcond); exact rfl))) | with_reducible refine xthen ?_ | (with_reducible intro hc; (try simp only [hcL, reduceCtorEq, List.length_map, hc1] at hc); (try (exfalso; omega))) | with_reducible (first | exact trivial | refine And.intro ?_ ?_ | exact rfl) | exact Eq.refl true | (refine inR_i64.mpr ?_; first | omega | (simp only [List.length_map, List.length_map, hc1]; omega)) | omega)
    refine round_end (k+1) hlt (by omega) (by (refine xwk (π := [4, 1]) (by decide) rfl ?_ ?_; (first | simp -implicitDefEqProofs only [go_sem, hs1, List.map_append, rowSpan]); repeat' (first | exact renE_n | ((with_reducible apply renE_c); exact rfl; focus (first | (simp -implicitDefEqProofs only [go_sem, hs1, List.map_append, rowSpan]; done))))))
  have hk' : k = g.cells.length := by omega
  subst hk'
  have t1 : (rowSpans g.cells).take g.cells.length = rowSpans g.cells := by rw [← hcl, List.take_length]
  rw [t1]
  repeat' (first | ((with_reducible apply xsim); (first | ((with_reducible apply xlenM); exact rfl; exact rfl) | ((with_reducible apply xo); exact rfl) | with_reducible apply xend)) | ((with_reducible apply xaw); (first | ((with_reducible apply xstepS); refine AW.step tok rfl ?_) | with_reducible (first | refine AW.seq ?_ | refine AW.ret ?_ | refine AW.exit ?_) | ((with_reducible apply xcond); exact rfl))) | with_reducible (first | refine xthen ?_ | refine xthen_e ?_ | refine xblock_e ?_ | refine xround_e ?_) | (with_reducible intro hc; (try simp only [hcL, reduceCtorEq, List.length_map] at hc); (try (exfalso; omega))) | with_reducible (first | exact trivial | refine And.intro ?_ ?_ | exact rfl))
  refine xfinW (Weak.freezeA 2 0 3 rfl rfl (by simp [hcl])) ?_
  (refine xfinIs (by first | exact .inl rfl | exact .inr rfl) rfl (by repeat' (first | exact trivial | exact rfl | refine And.intro ?_ ?_)) rfl ?_ rfl; first | with_reducible exact rfl)

theorem c_requestI (g : Grid) (h : GOk g) : ACon Tryz.prog 85 [vGrid g] [] (Is (.tup [.d (.int .i64 (gridReq g).1), .d (.int .i64 (gridReq g).2)])) := by
  have r1 := requests_rok h.cols h.cspans
  have r2 := requests_rok h.rows h.rspans
  refine ACon.introW tok (nt := 21) Tryz.func85 rfl rfl rfl (by kernel_rfl) rfl ?_
  repeat' (first | ((with_reducible apply xsim); (first | ((with_reducible apply xo); exact rfl) | with_reducible apply xend | ((with_reducible apply xbox); exact rfl; simp only [bkL, Nat.reduceAdd, Nat.reduceSub]) | ((with_reducible apply xcallIs); exact rfl; exact rfl; (first | exact c_spans g h | exact ORows.data (c_lineRequestsI _ _ h.cols h.cspans) | exact ORows.data (c_lineRequestsI _ _ h.rows h.rspans) | exact c_sum _ (r1.nums h.cols.hi) | exact c_sum _ (r2.nums h.rows.hi)); exact rfl))) | ((with_reducible apply xaw); (first | ((with_reducible apply xstepS); refine AW.step tok rfl ?_) | with_reducible (first | refine AW.seq ?_ | refine AW.ret ?_) | ((with_reducible apply xdraw (id := 2)); refine AW.draw (id := 2) (.q 0 (.q 1 (.q 2 (.q 3 (.q 4 (.q 5 (.q 6 (.q 7 (.q 8 (.q 9 (.q 10 (.q 11 (.fin))))))))))))) tok (by kernel_rfl) rfl (by kernel_rfl) ?_))) | ((with_reducible apply xarun); (first | ((with_reducible apply xrun_q); exact rfl; exact rfl; exact rfl) | ((with_reducible apply xrun_c); exact rfl; exact rfl; exact rfl; exact rfl; exact rfl; exact rfl; (first | exact c_spans g h | exact ORows.data (c_lineRequestsI _ _ h.cols h.cspans) | exact ORows.data (c_lineRequestsI _ _ h.rows h.rspans) | exact c_sum _ (r1.nums h.cols.hi) | exact c_sum _ (r2.nums h.rows.hi)); exact rfl) | with_reducible apply xrun_f)) | with_reducible refine xthen ?_ | with_reducible exact trivial | exact Eq.refl true)
  all_goals (refine xfinIs (by first | exact .inl rfl | exact .inr rfl) rfl (by repeat' (first | exact trivial | exact rfl | refine And.intro ?_ ?_)) rfl ?_ rfl; first | (simp -implicitDefEqProofs only [go_sem, gridReq] <;> (first | rfl | omega | exact decide_eq_decide.2 (by omega) | exact decide_eq_false (by omega) | exact decide_eq_true (by omega) | (symm; first | exact decide_eq_false (by omega) | exact decide_eq_true (by omega)) | (rw [Bool.eq_iff_iff]; simp only [boL, reduceCtorEq]; omega))))
theorem c_requestS (g : Grid) (h : GOk g) : ACon Tryz.prog 90 [vGrid g] [] (Is (.tup [.d (.int .i64 (gridReq g).1), .d (.int .i64 (gridReq g).2)])) := by
  have r1 := requests_rok h.cols h.cspans
  have r2 := requests_rok h.rows h.rspans
  refine ACon.introW tok (nt := 16) Tryz.func90 rfl rfl rfl (by kernel_rfl) rfl ?_
  repeat' (first | ((with_reducible apply xsim); (first | ((with_reducible apply xo); exact rfl) | with_reducible apply xend | ((with_reducible apply xbox); exact rfl; simp only [bkL, Nat.reduceAdd, Nat.reduceSub]))) | ((with_reducible apply xaw); (first | ((with_reducible apply xstepS); refine AW.step tok rfl ?_) | with_reducible (first | refine AW.seq ?_ | refine AW.ret ?_) | ((with_reducible apply xdraw (id := 1)); refine AW.draw (id := 1) (.q 0 (.q 1 (.q 2 (.q 3 (.q 4 (.q 5 (.q 6 (.q 7 (.q 8 (.q 9 (.q 10 (.q 11 (.q 12 (.q 13 (.fin))))))))))))))) tok (by kernel_rfl) rfl (by kernel_rfl) ?_))) | ((with_reducible apply xarun); (first | ((with_reducible apply xrun_q); exact rfl; exact rfl; exact rfl) | ((with_reducible apply xrun_c); exact rfl; exact rfl; exact rfl; exact rfl; exact rfl; exact rfl; (first | exact c_colSpansS g h | exact c_rowSpansS g h | exact ORows.data (c_wished _ _ h.cols h.cspans) | exact ORows.data (c_wished _ _ h.rows h.rspans) | exact c_total _ (r1.nums h.cols.hi) | exact c_total _ (r2.nums h.rows.hi)); exact rfl) | with_reducible apply xrun_f)) | with_reducible refine xthen ?_ | with_reducible exact trivial | exact Eq.refl true)
  all_goals (refine xfinIs (by first | exact .inl rfl | exact .inr rfl) rfl (by repeat' (first | exact trivial | exact rfl | refine And.intro ?_ ?_)) rfl ?_ rfl; first | (simp -implicitDefEqProofs only [go_sem, gridReq] <;> (first | rfl | omega | exact decide_eq_decide.2 (by omega) | exact decide_eq_false (by omega) | exact decide_eq_true (by omega) | (symm; first | exact decide_eq_false (by omega) | exact decide_eq_true (by omega)) | (rw [Bool.eq_iff_iff]; simp only [boL, reduceCtorEq]; omega))))

end Go.Proofs.YtpfhnhhkfobjnaaGreat

namespace Go.Proofs.YtpfhnhhkfobjnaaGreat
open Go.Fw
attribute [local irreducible] Go.Fw.aops Go.Fw.arun

theorem c_stuckI (room size : Int) (a b : Bool) (hr : 0 ≤ room ∧ room ≤ 2^40) (hs : 0 ≤ size ∧ size ≤ 2^40) : ACon Tryz.prog 107 [.d (.int .i64 room), .d (.int .i64 size), .d (.bool a), .d (.bool b)] [] (Is (.tup [.d (.int .i64 (stuckAt room size a b)), .d (.int .i64 (stuckLen room size a b))])) := by
  have e := tdiv2 (n := room - min size room) (by omega)
  cases a <;> cases b
  all_goals
    refine ACon.introW tok (nt := 33) Tryz.func107 rfl rfl rfl (by kernel_rfl) rfl ?_
    repeat' (first | ((with_reducible apply xsim); (first | ((with_reducible apply xo); exact rfl) | with_reducible apply xend | ((with_reducible apply xguardS); exact rfl; exact rfl))) | ((with_reducible apply xaw); (first | ((with_reducible apply xstepS); refine AW.step tok rfl ?_) | with_reducible (first | refine AW.seq ?_ | refine AW.block ?_ | refine AW.skip ?_ | refine AW.ret ?_) | ((with_reducible apply xcond); exact rfl))) | with_reducible (first | refine xthen ?_ | refine xthen_r ?_ | refine xblock ?_ | refine xblock_r ?_) | (with_reducible intro hc; (try simp only [hcL, reduceCtorEq] at hc); (try (exfalso; omega))) | with_reducible (first | exact trivial | refine And.intro ?_ ?_ | exact rfl) | (refine inR_i64.mpr ?_; first | omega | (simp only [List.length_map]; omega)) | omega)
    all_goals (refine xfinIs (by first | exact .inl rfl | exact .inr rfl) rfl (by repeat' (first | exact trivial | exact rfl | refine And.intro ?_ ?_)) rfl ?_ rfl; first | (simp -implicitDefEqProofs only [go_sem, stuckAt, stuckLen, Bool.false_eq_true, Bool.and_self, Bool.and_false, Bool.false_and, Bool.and_true] <;> (first | rfl | omega | exact decide_eq_decide.2 (by omega) | exact decide_eq_false (by omega) | exact decide_eq_true (by omega) | (symm; first | exact decide_eq_false (by omega) | exact decide_eq_true (by omega)) | (rw [Bool.eq_iff_iff]; simp only [boL, reduceCtorEq]; omega))))
theorem c_stuckS (p room size : Int) (a b : Bool) (hp : -2^40 < p ∧ p < 2^40) (hr : 0 ≤ room ∧ room ≤ 2^40) (hs : 0 ≤ size ∧ size ≤ 2^40) : ACon Tryz.prog 134 [.d (.int .i64 p), .d (.int .i64 room), .d (.int .i64 size), .d (.bool a), .d (.bool b)] [] (Is (.tup [.d (.int .i64 (p + stuckAt room size a b)), .d (.int .i64 (stuckLen room size a b))])) := by
  have e := tdiv2 (n := room - min size room) (by omega)
  cases a <;> cases b
  all_goals
    refine ACon.introW tok (nt := 42) Tryz.func134 rfl rfl rfl (by kernel_rfl) rfl ?_
    repeat' (first | ((with_reducible apply xsim); (first | ((with_reducible apply xo); exact rfl) | with_reducible apply xend | ((with_reducible apply xguardS); exact rfl; exact rfl))) | ((with_reducible apply xaw); (first | ((with_reducible apply xstepS); refine AW.step tok rfl ?_) | with_reducible (first | refine AW.seq ?_ | refine AW.block ?_ | refine AW.skip ?_ | refine AW.ret ?_) | ((with_reducible apply xcond); exact rfl))) | with_reducible (first | refine xthen ?_ | refine xthen_r ?_ | refine xblock ?_ | refine xblock_r ?_) | (with_reducible intro hc; (try simp only [hcL, reduceCtorEq] at hc); (try (exfalso; omega))) | with_reducible (first | exact trivial | refine And.intro ?_ ?_ | exact rfl) | (refine inR_i64.mpr ?_; first | omega | (simp only [List.length_map]; omega)) | omega)
    all_goals (refine xfinIs (by first | exact .inl rfl | exact .inr rfl) rfl (by repeat' (first | exact trivial | exact rfl | refine And.intro ?_ ?_)) rfl ?_ rfl; first | (simp -implicitDefEqProofs only [go_sem, stuckAt, stuckLen, Bool.false_eq_true, Bool.and_self, Bool.and_false, Bool.false_and, Bool.and_true, Int.add_zero, Int.add_sub_assoc] <;> (first | rfl | omega | exact decide_eq_decide.2 (by omega) | exact decide_eq_false (by omega) | exact decide_eq_true (by omega) | (symm; first | exact decide_eq_false (by omega) | exact decide_eq_true (by omega)) | (rw [Bool.eq_iff_iff]; simp only [boL, reduceCtorEq]; omega))))

theorem bits16 (s : Int) (h : 0 ≤ s ∧ s ≤ 15) : decide (ibits .and .i64 s 1 ≠ 0) = bitL s ∧ decide (ibits .and .i64 s 2 ≠ 0) = bitR s ∧ decide (ibits .and .i64 s 4 ≠ 0) = bitT s ∧ decide (ibits .and .i64 s 8 ≠ 0) = bitB s := by
  obtain ⟨n, rfl⟩ := Int.eq_ofNat_of_zero_le h.1
  have hn : n < 16 := by omega
  have : ∀ m : Fin 16, decide (ibits .and .i64 (m.val : Int) 1 ≠ 0) = bitL m.val ∧ decide (ibits .and .i64 (m.val : Int) 2 ≠ 0) = bitR m.val ∧ decide (ibits .and .i64 (m.val : Int) 4 ≠ 0) = bitT m.val ∧ decide (ibits .and .i64 (m.val : Int) 8 ≠ 0) = bitB m.val := by decide
  exact this ⟨n, hn⟩
end Go.Proofs.YtpfhnhhkfobjnaaGreat

namespace Go.Proofs.YtpfhnhhkfobjnaaGreat
open Go.Fw
attribute [local irreducible] Go.Fw.aops Go.Fw.arun

/-- Sizes of lines that are used. -/
structure XOk (n : Nat) (xs : List Int) : Prop where
  len : xs.length = n
  hi : n ≤ 5
  bd : ∀ x ∈ xs, 0 ≤ x ∧ x ≤ 32768
  sum : sumI xs ≤ 32768
theorem XOk.nums {n : Nat} {xs : List Int} (h : XOk n xs) : NumsOk xs := ⟨by have := h.len; have := h.hi; omega, fun x hx => by have := h.bd x hx; omega⟩
theorem XOk.take {n : Nat} {xs : List Int} (h : XOk n xs) {k : Nat} : NumsOk (xs.take k) := ⟨by have := h.len; have := h.hi; simp; omega, fun x hx => by have := h.bd x (List.mem_of_mem_take hx); omega⟩
theorem XOk.slc {n : Nat} {xs : List Int} (h : XOk n xs) {a m : Nat} : NumsOk (slc xs a m) := ⟨by have := h.len; have := h.hi; simp [Go.Proofs.YtpfhnhhkfobjnaaGreat.slc]; omega, fun x hx => by have := h.bd x (slc_mem hx); omega⟩
theorem XOk.part {n : Nat} {xs : List Int} (h : XOk n xs) (a m : Nat) : 0 ≤ sumI (xs.take a) ∧ 0 ≤ sumI (Go.Proofs.YtpfhnhhkfobjnaaGreat.slc xs a m) ∧ sumI (xs.take a) + sumI (Go.Proofs.YtpfhnhhkfobjnaaGreat.slc xs a m) ≤ sumI xs := by
  have h0 : ∀ x ∈ xs, 0 ≤ x := fun x hx => (h.bd x hx).1
  have h1 := take_all h0 (a := a + m)
  rw [take_slc] at h1
  exact ⟨sumI_nonneg fun x hx => h0 x (List.mem_of_mem_take hx), sumI_nonneg fun x hx => h0 x (slc_mem hx), h1⟩
theorem GOk.xcol {g : Grid} (h : GOk g) {w : Int} (hw : 0 ≤ w ∧ w ≤ 16384) : XOk g.cols.length (colSizes g w) := by
  have := h.csz hw
  have hb := sum50 (requests_rok h.cols h.cspans) h.cols.hi
  exact ⟨this.len, h.cols.hi, this.bd, by have := this.most; omega⟩
theorem GOk.xrow {g : Grid} (h : GOk g) {w : Int} (hw : 0 ≤ w ∧ w ≤ 16384) : XOk g.rows.length (rowSizes g w) := by
  have := h.rsz hw
  have hb := sum50 (requests_rok h.rows h.rspans) h.rows.hi
  exact ⟨this.len, h.rows.hi, this.bd, by have := this.most; omega⟩

theorem inset_bd {r : Rect} {px py : Int} (hw : 0 ≤ r.w) (hh : 0 ≤ r.h) (hx : 0 ≤ px) (hy : 0 ≤ py) : r.x ≤ (inset r px py).x ∧ r.y ≤ (inset r px py).y ∧ 0 ≤ (inset r px py).w ∧ 0 ≤ (inset r px py).h ∧
    (inset r px py).x + (inset r px py).w ≤ r.x + r.w ∧ (inset r px py).y + (inset r px py).h ≤ r.y + r.h ∧ r.w - 2 * px ≤ (inset r px py).w ∧ r.h - 2 * py ≤ (inset r px py).h := by
  have e1 := tdiv2 hw
  have e2 := tdiv2 hh
  unfold inset
  dsimp only
  omega
theorem rects_take {g : Grid} {xs ys : List Int} {r : Rect} {k : Nat} (h : k < g.cells.length) : (g.cells.map (cellRect xs ys r)).take (k + 1) = (g.cells.map (cellRect xs ys r)).take k ++ [cellRect xs ys r g.cells[k]] := by
  rw [List.take_succ_eq_append_getElem (by simp; exact h)]; simp

set_option maxHeartbeats 4000000 in
theorem c_rectsI (g : Grid) (w h : Int) (hg : GOk g) (hw : 0 ≤ w ∧ w ≤ 16384) (hh : 0 ≤ h ∧ h ≤ 16384) : ACon Tryz.prog 78 [vGrid g, .d (.int .i64 w), .d (.int .i64 h)] [] (ORows encRect 4 (gridRectsIn g ⟨0, 0, w, h⟩)) := by
  have hX := hg.xcol hw
  have hY := hg.xrow hh
  have h8 := hg.hi
  have cx := ORows.data (c_lineSizesI _ _ w hg.cols hg.cspans hw)
  have cy := ORows.data (c_lineSizesI _ _ h hg.rows hg.rspans hh)
  have he : gridRectsIn g ⟨0, 0, w, h⟩ = g.cells.map (cellRect (colSizes g w) (rowSizes g h) ⟨0, 0, w, h⟩) := rfl
  rw [he]
  rw [show sizes g.cols (requests g.cols (colSpans g.cells)) w = colSizes g w from rfl] at cx
  rw [show sizes g.rows (requests g.rows (rowSpans g.cells)) h = rowSizes g h from rfl] at cy
  generalize colSizes g w = xs at *
  generalize rowSizes g h = ys at *
  have hml : (g.cells.map (cellRect xs ys ⟨0, 0, w, h⟩)).length = g.cells.length := by simp
  have hxl := hX.len
  have hyl := hY.len
  have hc5 := hX.hi
  have hr5 := hY.hi
  refine ACon.introW tok (nt := 126) Tryz.func78 rfl rfl rfl (by kernel_rfl) rfl ?_
  repeat' (first | ((with_reducible apply xsim); (first | ((with_reducible apply xlenM); exact rfl; exact rfl) | ((with_reducible apply xo); exact rfl) | with_reducible apply xend | ((with_reducible apply xbox); exact rfl; simp only [bkL, Nat.reduceAdd, Nat.reduceSub]) | ((with_reducible apply xcallIs); exact rfl; exact rfl; (first | exact c_spans g hg | exact cx | exact cy); exact rfl))) | ((with_reducible apply xaw); (first | ((with_reducible apply xstepS); refine AW.step tok rfl ?_) | with_reducible (first | refine AW.seq ?_ | refine AW.block ?_) | ((with_reducible apply xdraw (id := 2)); refine AW.draw (id := 2) (.q 0 (.q 1 (.q 2 (.q 3 (.q 4 (.q 5 (.q 6 (.q 7 (.q 8 (.q 9 (.q 10 (.q 11 (.fin))))))))))))) tok (by kernel_rfl) rfl (by kernel_rfl) ?_))) | ((with_reducible apply xarun); (first | ((with_reducible apply xrun_q); exact rfl; exact rfl; exact rfl) | ((with_reducible apply xrun_c); exact rfl; exact rfl; exact rfl; exact rfl; exact rfl; exact rfl; (first | exact c_spans g hg | exact cx | exact cy); exact rfl) | with_reducible apply xrun_f)) | with_reducible refine xthen ?_ | with_reducible exact trivial | exact Eq.refl true)
  all_goals
    refine AW.own 11 4 rfl ?_
    refine AW.loop (S := fun k : Nat => ⟨[(9, .d (.lst (xs.map encN))), (10, .d (.lst (ys.map encN))), (11, .msl 0 4 0 k), (35, .d (.lst (g.cells.map encCell))), (36, .d (.int .i64 g.cells.length)), (37, .d (.int .i64 k))], [.arr 4 (((g.cells.map (cellRect xs ys ⟨0, 0, w, h⟩)).take k).map encRect)], 126, .p 0⟩)
      (Pre := fun k => k ≤ g.cells.length) (μ := fun k => g.cells.length - k) 0 (Nat.zero_le _) ?_ ?_
    · (refine xwk (π := [1]) (by decide) rfl ?_ ?_; (first | simp -implicitDefEqProofs only [go_sem, List.take_zero]); repeat' (first | exact renE_n | ((with_reducible apply renE_c); exact rfl; focus (first | (simp -implicitDefEqProofs only [go_sem, List.take_zero]; done)))))
    intro k hk
    have htl : ((g.cells.map (cellRect xs ys ⟨0, 0, w, h⟩)).take k).length = k := by simp; omega
    by_cases hlt : k < g.cells.length
    · have hrow := at_map (f := encCell) hlt
      have hsu := rects_take (g := g) (xs := xs) (ys := ys) (r := ⟨0, 0, w, h⟩) hlt
      have hb := hg.ok _ (List.getElem_mem hlt)
      generalize g.cells[k] = c at *
      obtain ⟨hb1, hb2⟩ := hb
      obtain ⟨q1, q2, q3, q4⟩ := bits16 c.stick (by omega)
      have px := hX.part c.col.toNat c.manyCols.toNat
      have py := hY.part c.row.toNat c.manyRows.toNat
      have sx := hX.sum
      have sy := hY.sum
      have ex : (xs.drop c.col.toNat).take ((c.col + c.manyCols).toNat - c.col.toNat) = slc xs c.col.toNat c.manyCols.toNat := by rw [slc, show (c.col + c.manyCols).toNat - c.col.toNat = c.manyCols.toNat by omega]
      have ey : (ys.drop c.row.toNat).take ((c.row + c.manyRows).toNat - c.row.toNat) = slc ys c.row.toNat c.manyRows.toNat := by rw [slc, show (c.row + c.manyRows).toNat - c.row.toNat = c.manyRows.toNat by omega]
      have s1 := c_sum _ (hX.take (k := c.col.toNat))
      have s2 := c_sum _ (hY.take (k := c.row.toNat))
      have s3 : ACon Tryz.prog 106 [.d (.lst (((xs.drop c.col.toNat).take ((c.col + c.manyCols).toNat - c.col.toNat)).map encN))] [] (Is (.d (.int .i64 (sumI (slc xs c.col.toNat c.manyCols.toNat))))) := by rw [ex]; exact c_sum _ hX.slc
      have s4 : ACon Tryz.prog 106 [.d (.lst (((ys.drop c.row.toNat).take ((c.row + c.manyRows).toNat - c.row.toNat)).map encN))] [] (Is (.d (.int .i64 (sumI (slc ys c.row.toNat c.manyRows.toNat))))) := by rw [ey]; exact c_sum _ hY.slc
      have hq : inset (areaOf xs ys ⟨0, 0, w, h⟩ c) c.padX c.padY = inset ⟨sumI (xs.take c.col.toNat), sumI (ys.take c.row.toNat), sumI (slc xs c.col.toNat c.manyCols.toNat), sumI (slc ys c.row.toNat c.manyRows.toNat)⟩ c.padX c.padY := by simp only [areaOf, Int.zero_add]
      have hcr : cellRect xs ys ⟨0, 0, w, h⟩ c = cellIn (inset ⟨sumI (xs.take c.col.toNat), sumI (ys.take c.row.toNat), sumI (slc xs c.col.toNat c.manyCols.toNat), sumI (slc ys c.row.toNat c.manyRows.toNat)⟩ c.padX c.padY) c := by rw [cellRect, hq]
      rw [hcr] at hsu
      have s5 := c_insetI ⟨sumI (xs.take c.col.toNat), sumI (ys.take c.row.toNat), sumI (slc xs c.col.toNat c.manyCols.toNat), sumI (slc ys c.row.toNat c.manyRows.toNat)⟩ c.padX c.padY (by constructor <;> dsimp only <;> omega) px.2.1 py.2.1 (by omega) (by omega)
      have s6 := inset_bd (r := ⟨sumI (xs.take c.col.toNat), sumI (ys.take c.row.toNat), sumI (slc xs c.col.toNat c.manyCols.toNat), sumI (slc ys c.row.toNat c.manyRows.toNat)⟩) (px := c.padX) (py := c.padY) px.2.1 py.2.1 (by omega) (by omega)
      generalize inset ⟨sumI (xs.take c.col.toNat), sumI (ys.take c.row.toNat), sumI (slc xs c.col.toNat c.manyCols.toNat), sumI (slc ys c.row.toNat c.manyRows.toNat)⟩ c.padX c.padY = q at *
      dsimp only at s6
      have b1 := stuck_bd (room := q.w) (size := c.w) (a := bitL c.stick) (b := bitR c.stick) (by omega) (by omega)
      have b2 := stuck_bd (room := q.h) (size := c.h) (a := bitT c.stick) (b := bitB c.stick) (by omega) (by omega)
      have s7 : ACon Tryz.prog 107 [.d (.int .i64 q.w), .d (.int .i64 c.w), .d (.bool (decide (ibits .and .i64 c.stick 1 ≠ 0))), .d (.bool (decide (ibits .and .i64 c.stick 2 ≠ 0)))] [] (Is (.tup [.d (.int .i64 (stuckAt q.w c.w (bitL c.stick) (bitR c.stick))), .d (.int .i64 (stuckLen q.w c.w (bitL c.stick) (bitR c.stick)))])) := by rw [q1, q2]; exact c_stuckI _ _ _ _ (by omega) (by omega)
      have s8 : ACon Tryz.prog 107 [.d (.int .i64 q.h), .d (.int .i64 c.h), .d (.bool (decide (ibits .and .i64 c.stick 4 ≠ 0))), .d (.bool (decide (ibits .and .i64 c.stick 8 ≠ 0)))] [] (Is (.tup [.d (.int .i64 (stuckAt q.h c.h (bitT c.stick) (bitB c.stick))), .d (.int .i64 (stuckLen q.h c.h (bitT c.stick) (bitB c.stick)))])) := by rw [q3, q4]; exact c_stuckI _ _ _ _ (by omega) (by omega)
      simp only [cellIn] at hsu
      repeat' (first | ((with_reducible apply xsim); (first | ((with_reducible apply xbld); exact rfl; exact rfl; exact rfl; (try simp only [List.set_cons_zero, List.set_cons_succ])) | ((with_reducible apply xo); exact rfl) | ((with_reducible apply xst); exact rfl) | with_reducible apply xend | ((with_reducible apply xalloc); exact rfl; simp only [bkL, Nat.reduceAdd, Nat.reduceSub]) | ((with_reducible apply xbuild); exact rfl; exact rfl; exact rfl; exact rfl; exact rfl; simp only [bkL, Nat.reduceAdd, Nat.reduceSub]) | ((with_reducible apply xidxL); exact rfl; exact rfl; exact rfl; (first | exact hrow); omega; first | exact rfl | simp only [hsz]) | ((with_reducible apply xslcHi); exact rfl; exact rfl; exact rfl; exact (fun r hr => by obtain ⟨a, _, rfl⟩ := List.mem_map.1 hr; rfl); first | omega | (simp only [List.length_cons, List.length_nil]; omega)) | ((with_reducible apply xslcB); exact rfl; exact rfl; exact rfl; exact rfl; exact (fun r hr => by obtain ⟨a, _, rfl⟩ := List.mem_map.1 hr; rfl); first | omega | (simp only [List.length_cons, List.length_nil]; omega)) | ((with_reducible apply xcallIs); exact rfl; exact rfl; (first | exact s1 | exact s2 | exact s3 | exact s4 | exact s5 | exact s7 | exact s8); exact rfl) | simp -implicitDefEqProofs only [go_sem, List.length_map, htl])) | ((with_reducible apply xaw); (first | ((with_reducible apply xstepS); refine AW.step tok rfl ?_) | ((with_reducible apply xstep); refine AW.region tok rfl ?_) | with_reducible (first | refine AW.seq ?_ | refine AW.block ?_ | refine AW.skip ?_) | ((with_reducible apply xcond); exact rfl) | ((with_reducible apply xdraw (id := 7)); refine AW.draw (id := 7) (.q 0 (.q 1 (.q 2 (.q 3 (.q 4 (.q 5 (.q 6 (.q 7 (.q 8 (.q 9 (.q 10 (.q 11 (.q 12 (.q 13 (.q 14 (.q 15 (.q 16 (.q 17 (.q 18 (.q 19 (.q 20 (.q 21 (.q 22 (.q 23 (.q 24 (.q 25 (.q 26 (.q 27 (.q 28 (.q 29 (.q 30 (.e 31 (.e 32 (.fin)))))))))))))))))))))))))))))))))) tok (by kernel_rfl) rfl (by kernel_rfl) ?_))) | ((with_reducible apply xarun); (first | ((with_reducible apply xrun_q); exact rfl; exact rfl; exact rfl) | ((with_reducible apply xrun_c); exact rfl; exact rfl; exact rfl; exact rfl; exact rfl; exact rfl; (first | exact s1 | exact s2 | exact s3 | exact s4 | exact s5 | exact s7 | exact s8); exact rfl) | ((with_reducible apply xrun_e); exact rfl) | with_reducible apply xrun_f)) | with_reducible refine xthen ?_ | (with_reducible intro hc; (try simp only [hcL, reduceCtorEq, List.length_map, htl] at hc); (try (exfalso; omega))) | with_reducible (first | exact trivial | refine And.intro ?_ ?_ | exact rfl) | exact Eq.refl true | (refine inR_i64.mpr ?_; first | omega | (simp only [List.length_map, List.length_map, htl]; omega)) | omega)
      all_goals refine round_end (k+1) hlt (by omega) (by (refine xwk (π := [4]) (by decide) rfl ?_ ?_; (first | simp -implicitDefEqProofs only [go_sem, hsu, List.map_append]); repeat' (first | exact renE_n | ((with_reducible apply renE_c); exact rfl; focus (first | (simp -implicitDefEqProofs only [go_sem, hsu, List.map_append]; done))))))
    · have hk' : k = g.cells.length := by omega
      subst hk'
      have hta : (g.cells.map (cellRect xs ys ⟨0, 0, w, h⟩)).take g.cells.length = g.cells.map (cellRect xs ys ⟨0, 0, w, h⟩) := by rw [← hml, List.take_length]
      repeat' (first | ((with_reducible apply xsim); (first | ((with_reducible apply xo); exact rfl) | with_reducible apply xend)) | ((with_reducible apply xaw); (first | ((with_reducible apply xstepS); refine AW.step tok rfl ?_) | with_reducible (first | refine AW.seq ?_ | refine AW.ret ?_ | refine AW.exit ?_) | ((with_reducible apply xcond); exact rfl))) | with_reducible (first | refine xthen ?_ | refine xthen_e ?_ | refine xblock_e ?_ | refine xround_e ?_) | (with_reducible intro hc; (try simp only [hcL, reduceCtorEq, List.length_map] at hc); (try (exfalso; omega))) | with_reducible (first | exact trivial | refine And.intro ?_ ?_ | exact rfl))
      (refine xfinOwn [0] (by first | exact .inl rfl | exact .inr rfl) rfl (by repeat' (first | exact trivial | exact rfl | refine And.intro ?_ ?_)) (by decide) rfl ?_ ?_ <;> simp -implicitDefEqProofs only [go_sem, hta, hml])
end Go.Proofs.YtpfhnhhkfobjnaaGreat

namespace Go.Proofs.YtpfhnhhkfobjnaaGreat
open Go.Fw

instance : Inhabited Rect := ⟨⟨0, 0, 0, 0⟩⟩
theorem rect_ext {a b : Rect} (h1 : a.x = b.x) (h2 : a.y = b.y) (h3 : a.w = b.w) (h4 : a.h = b.h) : a = b := by
  cases a; cases b; simp_all
/-- A rectangle that is told from another one on. -/
def mv (r q : Rect) : Rect := ⟨r.x + q.x, r.y + q.y, q.w, q.h⟩
def org (r : Rect) : Rect := ⟨0, 0, r.w, r.h⟩
theorem mv_org (r : Rect) : mv r (org r) = r := rect_ext (by simp [mv, org]) (by simp [mv, org]) rfl rfl
theorem cut_mv (r q : Rect) (s n : Int) : cut (mv r q) s n = (mv r (cut q s n).1, mv r (cut q s n).2) := by
  unfold cut
  split
  · exact Prod.ext (rect_ext rfl rfl rfl rfl) (rect_ext rfl (by simp only [mv]; omega) rfl rfl)
  · split
    · exact Prod.ext (rect_ext rfl (by simp only [mv]; omega) rfl rfl) (rect_ext rfl rfl rfl rfl)
    · split
      · exact Prod.ext (rect_ext rfl rfl rfl rfl) (rect_ext (by simp only [mv]; omega) rfl rfl rfl)
      · exact Prod.ext (rect_ext (by simp only [mv]; omega) rfl rfl rfl) (rect_ext rfl rfl rfl rfl)
theorem parNeed_mv (xs : List Pack) (k : Nat) (p : Pack) (r q : Rect) : parNeed xs k p (mv r q) = parNeed xs k p q := rfl
theorem parTo_mv (xs : List Pack) (r : Rect) (q : Rect) : ∀ k, parTo xs (mv r q) k = ((parTo xs q k).1.map (mv r), mv r (parTo xs q k).2) := by
  intro k
  induction k with
  | zero => rfl
  | succ k ih =>
    simp only [parTo, parStep]
    cases hx : xs[k]? with
    | none => exact ih
    | some p =>
      dsimp only
      rw [ih]
      dsimp only
      rw [parNeed_mv, cut_mv, List.map_append]
      rfl
theorem inset_mv (r q : Rect) (a b : Int) : inset (mv r q) a b = mv r (inset q a b) :=
  rect_ext (by simp only [inset, mv]; omega) (by simp only [inset, mv]; omega) rfl rfl
theorem anchored_mv (r q : Rect) (a b c : Int) : anchored (mv r q) a b c = mv r (anchored q a b c) :=
  rect_ext (by simp only [anchored, mv]; omega) (by simp only [anchored, mv]; omega) rfl rfl
theorem settled_mv (p : Pack) (r q : Rect) : settled p (mv r q) = mv r (settled p q) := by
  unfold settled
  rw [inset_mv, anchored_mv]
  rfl
theorem packed_mv (xs : List Pack) (r q : Rect) : packed xs (mv r q) = (packed xs q).map (mv r) := by
  unfold packed parcels
  rw [parTo_mv]
  dsimp only
  rw [List.zipWith_map_right, List.map_zipWith]
  congr 1
  funext p q'
  exact settled_mv p r q'
theorem packed_org (xs : List Pack) (r : Rect) : packed xs r = (packed xs (org r)).map (mv r) := by
  have := packed_mv xs r (org r)
  rwa [mv_org] at this
theorem cellRect_mv (xs ys : List Int) (r : Rect) (c : Cell) : cellRect xs ys r c = mv r (cellRect xs ys (org r) c) := by
  have h : areaOf xs ys r c = mv r (areaOf xs ys (org r) c) := rect_ext (by simp [areaOf, mv, org]) (by simp [areaOf, mv, org]) rfl rfl
  unfold cellRect
  rw [h, inset_mv]
  exact rect_ext (by simp only [cellIn, mv]; omega) (by simp only [cellIn, mv]; omega) rfl rfl
theorem grid_org (g : Grid) (r : Rect) : gridRectsIn g r = (gridRectsIn g (org r)).map (mv r) := by
  unfold gridRectsIn
  rw [List.map_map]
  refine List.map_congr_left fun c _ => ?_
  exact cellRect_mv _ _ r c

def placed (p : Place) (r : Rect) : Rect :=
  ⟨r.x + (p.x + (r.w * p.relX).tdiv 1000 - (max 0 (p.w + (r.w * p.relW).tdiv 1000) * p.anchor.tmod 3).tdiv 2), r.y + (p.y + (r.h * p.relY).tdiv 1000 - (max 0 (p.h + (r.h * p.relH).tdiv 1000) * p.anchor.tdiv 3).tdiv 2),
    max 0 (p.w + (r.w * p.relW).tdiv 1000), max 0 (p.h + (r.h * p.relH).tdiv 1000)⟩
theorem placed_org (p : Place) (r : Rect) : placed p r = mv r (placed p (org r)) := rect_ext (by simp only [placed, mv, org]; omega) (by simp only [placed, mv, org]; omega) rfl rfl
theorem validPlace_iff {p : Place} (h : validPlace p = true) : -300 ≤ p.x ∧ p.x ≤ 300 ∧ -300 ≤ p.y ∧ p.y ≤ 300 ∧ 0 ≤ p.relX ∧ p.relX ≤ 1000 ∧ 0 ≤ p.relY ∧ p.relY ≤ 1000 ∧ -300 ≤ p.w ∧ p.w ≤ 300 ∧ -300 ≤ p.h ∧ p.h ≤ 300 ∧ 0 ≤ p.relW ∧ p.relW ≤ 1000 ∧ 0 ≤ p.relH ∧ p.relH ≤ 1000 ∧ 0 ≤ p.anchor ∧ p.anchor ≤ 8 := of_decide_eq_true h
theorem rel_bd {n r : Int} (hn : 0 ≤ n) (hr : 0 ≤ r ∧ r ≤ 1000) : 0 ≤ n * r ∧ n * r ≤ n * 1000 ∧ 0 ≤ (n * r).tdiv 1000 ∧ (n * r).tdiv 1000 ≤ n := by
  have h1 := Int.mul_nonneg hn hr.1
  have h2 := Int.mul_le_mul_of_nonneg_left hr.2 hn
  rw [Int.tdiv_eq_ediv_of_nonneg h1]
  refine ⟨h1, h2, Int.ediv_nonneg h1 (by omega), ?_⟩
  have := Int.ediv_le_ediv (show (0 : Int) < 1000 by omega) h2
  omega
theorem part_bd {n a : Int} (hn : 0 ≤ n) (ha : 0 ≤ a ∧ a ≤ 2) : 0 ≤ n * a ∧ n * a ≤ 2 * n ∧ 0 ≤ (n * a).tdiv 2 ∧ (n * a).tdiv 2 ≤ n := by
  have h1 := mul02 hn ha
  have := tdiv2 h1.1
  omega
theorem placed_bd {p : Place} {r : Rect} (hp : validPlace p = true) (hw : 0 ≤ r.w) (hh : 0 ≤ r.h) :
    0 ≤ (placed p r).w ∧ (placed p r).w ≤ r.w + 300 ∧ 0 ≤ (placed p r).h ∧ (placed p r).h ≤ r.h + 300 ∧
    r.x - (600 + r.w) ≤ (placed p r).x ∧ (placed p r).x ≤ r.x + 600 + r.w ∧ r.y - (600 + r.h) ≤ (placed p r).y ∧ (placed p r).y ≤ r.y + 600 + r.h := by
  have h := validPlace_iff hp
  have ha := anchor_bd (a := p.anchor) (by omega)
  have r1 := rel_bd (r := p.relX) hw (by omega)
  have r2 := rel_bd (r := p.relW) hw (by omega)
  have r3 := rel_bd (r := p.relY) hh (by omega)
  have r4 := rel_bd (r := p.relH) hh (by omega)
  have p1 := part_bd (n := max 0 (p.w + (r.w * p.relW).tdiv 1000)) (a := p.anchor.tmod 3) (by omega) (by omega)
  have p2 := part_bd (n := max 0 (p.h + (r.h * p.relH).tdiv 1000)) (a := p.anchor.tdiv 3) (by omega) (by omega)
  simp only [placed]
  omega

/-- The rectangles of kids in a rectangle. -/
def kidRects (t : List Node) (i : Nat) (r : Rect) : List Rect :=
  if (nodeAt t i).kind = 0 then packed (itemsOf t (kids t i)) r
  else if (nodeAt t i).kind = 1 then gridRectsIn (gridOf t i (kids t i)) r
  else (kids t i).map fun k => placed (nodeAt t k).place r
theorem kidRects_org (t : List Node) (i : Nat) (r : Rect) : kidRects t i r = (kidRects t i (org r)).map (mv r) := by
  unfold kidRects
  split
  · exact packed_org _ r
  · split
    · exact grid_org _ r
    · rw [List.map_map]
      exact List.map_congr_left fun k _ => placed_org _ r
def rectF (t : List Node) (w h : Int) : Nat → Nat → Rect
  | 0, _ => ⟨0, 0, w, h⟩
  | f + 1, k => if k = 0 then ⟨0, 0, w, h⟩ else ((kidRects t (nodeAt t k).parent.toNat (rectF t w h f (nodeAt t k).parent.toNat))[(kids t (nodeAt t k).parent.toNat).idxOf k]?).getD default
/-- The rectangle of a node. -/
def rectAt (t : List Node) (w h : Int) (k : Nat) : Rect := rectF t w h k k
theorem rectF_fuel {t : List Node} (h : TreeK t) {w v : Int} : ∀ (f g k : Nat), k < t.length → k ≤ f → k ≤ g → rectF t w v f k = rectF t w v g k := by
  intro f
  induction f with
  | zero =>
    intro g k hk h1 h2
    have : k = 0 := by omega
    subst this
    cases g <;> simp [rectF]
  | succ f ih =>
    intro g k hk h1 h2
    by_cases h0 : k = 0
    · subst h0
      cases g <;> simp [rectF]
    · cases g with
      | zero => omega
      | succ g =>
        simp only [rectF]
        rw [if_neg h0, if_neg h0]
        have hp := h.up k hk (by omega)
        rw [nodeAt_eq hk, ih g t[k].parent.toNat (by omega) (by omega) (by omega)]
theorem kids_nodup (t : List Node) (i : Nat) : (kids t i).Nodup := List.Pairwise.filter _ List.nodup_range
theorem packed_length {t : List Node} (h : TreeK t) {ks : List Nat} (hks : ∀ k ∈ ks, k < t.length) (r : Rect) : (packed (itemsOf t ks) r).length = ks.length := by
  have key : ∀ (xs : List Pack) (q : Rect) (m : Nat), m ≤ xs.length → (parTo xs q m).1.length = m := by
    intro xs q m
    induction m with
    | zero => intro _; rfl
    | succ m ih =>
      intro hm
      rw [parTo_succ (by omega)]
      simp [ih (by omega)]
  unfold packed parcels
  rw [List.length_zipWith, key _ _ _ (Nat.le_refl _)]
  simp [itemsOf]
theorem kidRects_len {t : List Node} (h : TreeK t) {i : Nat} (r : Rect) : (kidRects t i r).length = (kids t i).length := by
  unfold kidRects
  split
  · exact packed_length h (fun k hk => (h.kid hk).1) r
  · split
    · simp [gridRectsIn, gridOf, cellsOf]
    · simp
theorem rectAt_zero (t : List Node) (w h : Int) : rectAt t w h 0 = ⟨0, 0, w, h⟩ := rfl
theorem rectAt_kid {t : List Node} (h : TreeK t) {w v : Int} {i j : Nat} (hj : j < (kids t i).length) : rectAt t w v (kids t i)[j] = (kidRects t i (rectAt t w v i))[j]'(by rw [kidRects_len h]; exact hj) := by
  obtain ⟨h1, h2, h3⟩ := h.kid (List.getElem_mem hj)
  have e : (nodeAt t (kids t i)[j]).parent.toNat = i := by rw [nodeAt_eq h1]; omega
  obtain ⟨k, hk⟩ : ∃ k, (kids t i)[j] = k + 1 := ⟨(kids t i)[j] - 1, by omega⟩
  have : rectAt t w v (kids t i)[j] = rectF t w v (k + 1) (kids t i)[j] := by unfold rectAt; rw [hk]
  rw [this]
  simp only [rectF]
  rw [if_neg (by omega), e, rectF_fuel h k i i (by omega) (by omega) (Nat.le_refl _)]
  have hi : (kids t i).idxOf (kids t i)[j] = j := (kids_nodup t i).idxOf_getElem j hj
  rw [hi, List.getElem?_eq_getElem (by rw [kidRects_len h]; exact hj)]
  rfl
def layoutOf (t : List Node) (w h : Int) : List Rect := (List.range t.length).map (rectAt t w h)

/-- The rectangle lies in another one. -/
def InR (r q : Rect) : Prop := r.x ≤ q.x ∧ r.y ≤ q.y ∧ 0 ≤ q.w ∧ 0 ≤ q.h ∧ q.x + q.w ≤ r.x + r.w ∧ q.y + q.h ≤ r.y + r.h
theorem InR.trans {a b c : Rect} (h1 : InR a b) (h2 : InR b c) : InR a c := by unfold InR at *; omega
theorem inset_inR {r : Rect} {px py : Int} (hw : 0 ≤ r.w) (hh : 0 ≤ r.h) (hx : 0 ≤ px) (hy : 0 ≤ py) : InR r (inset r px py) := by
  have := inset_bd hw hh hx hy
  unfold InR; omega
theorem anchored_inR {r : Rect} {w h a : Int} (h3 : 0 ≤ r.w) (h4 : 0 ≤ r.h) (hw : 0 ≤ w) (hh : 0 ≤ h) (ha : 0 ≤ a ∧ a ≤ 8) : InR r (anchored r w h a) := by
  have hb := anchor_bd ha
  have m1 := mul02 (a := r.w - min w r.w) (b := a.tmod 3) (by omega) (by omega)
  have m2 := mul02 (a := r.h - min h r.h) (b := a.tdiv 3) (by omega) (by omega)
  have e1 := tdiv2 m1.1
  have e2 := tdiv2 m2.1
  unfold anchored InR
  dsimp only
  omega
theorem settled_inR {p : Pack} {q : Rect} (hp : packB p = true) (hw : 0 ≤ q.w) (hh : 0 ≤ q.h) : InR q (settled p q) := by
  have hv := packB_iff.1 hp
  have hi := inset_inR (px := p.padX) (py := p.padY) hw hh (by omega) (by omega)
  refine hi.trans ?_
  obtain ⟨h1, h2, h3, h4, h5, h6⟩ := hi
  unfold settled
  refine anchored_inR h3 h4 ?_ ?_ (by omega) <;> split <;> omega
theorem cut_inR {r : Rect} {side n : Int} (hw : 0 ≤ r.w) (hh : 0 ≤ r.h) (hn : 0 ≤ n) : InR r (cut r side n).1 ∧ InR r (cut r side n).2 := by
  unfold cut InR
  split
  · dsimp only; omega
  · split
    · dsimp only; omega
    · split
      · dsimp only; omega
      · dsimp only; omega
theorem parTo_inR {xs : List Pack} {r : Rect} (hl : xs.length ≤ 10) (hv : xs.all packB = true) (hr : RectIn r) : ∀ k, k ≤ xs.length → InR r (parTo xs r k).2 ∧ ∀ q ∈ (parTo xs r k).1, InR r q := by
  intro k
  induction k with
  | zero => intro _; obtain ⟨h1, h2, h3, h4, h5, h6⟩ := hr; exact ⟨by simp only [parTo, InR]; omega, fun q hq => by cases hq⟩
  | succ k ih =>
    intro hk
    obtain ⟨h2, h3⟩ := ih (by omega)
    have hi := (parTo_inv hl hv hr k (by omega)).2.1
    have hc := cut_inR (side := xs[k].side) hi.w hi.h (parNeed_bd (k := k) hl hv (by omega) hi).1
    rw [parTo_succ (by omega)]
    refine ⟨h2.trans hc.2, fun q hq => ?_⟩
    rcases List.mem_append.1 hq with hq | hq
    · exact h3 q hq
    · rw [List.mem_singleton.1 hq]; exact h2.trans hc.1
theorem packed_inR {xs : List Pack} {r : Rect} (hl : xs.length ≤ 10) (hv : xs.all packB = true) (hr : RectIn r) : ∀ q ∈ packed xs r, InR r q := by
  intro q hq
  have h1 := (parTo_inR hl hv hr xs.length (Nat.le_refl _)).2
  obtain ⟨j, hj, rfl⟩ := List.mem_iff_getElem.1 hq
  simp only [packed, List.getElem_zipWith]
  have hj' : j < xs.length ∧ j < (parcels xs r).1.length := by simp [packed] at hj; omega
  have h2 := h1 _ (List.getElem_mem hj'.2)
  exact h2.trans (settled_inR (List.all_eq_true.1 hv _ (List.getElem_mem hj'.1)) h2.2.2.1 h2.2.2.2.1)

theorem items_ok {t : List Node} (h : TreeK t) (i : Nat) : (itemsOf t (kids t i)).length ≤ 10 ∧ (itemsOf t (kids t i)).all packB = true := by
  have := kids_len t i t.length
  have := h.hi
  refine ⟨by simp only [itemsOf, List.length_map]; unfold kids; omega, ?_⟩
  unfold itemsOf
  rw [List.all_map, List.all_eq_true]
  intro k hk
  obtain ⟨a, _⟩ := h.kid hk
  exact packOf_ok h a (wish_le h a)
theorem grid_ok {t : List Node} (h : TreeK t) {i : Nat} (hi : i < t.length) (hk : (nodeAt t i).kind = 1) : GOk (gridOf t i (kids t i)) :=
  gridOf_ok h hi hk fun k hk => wish_le h (h.kid hk).1

/-- The bounds of a node's rectangle. -/
structure RB (k : Nat) (r : Rect) : Prop where
  w : 0 ≤ r.w ∧ r.w ≤ 1700 + 300 * k
  h : 0 ≤ r.h ∧ r.h ≤ 1700 + 300 * k
  x : -(16384 * (k : Int)) ≤ r.x ∧ r.x ≤ 16384 * k
  y : -(16384 * (k : Int)) ≤ r.y ∧ r.y ≤ 16384 * k
theorem RB.in {k : Nat} {r : Rect} (h : RB k r) (hk : k ≤ 10) : RectIn r := by
  obtain ⟨h1, h2, h3, h4⟩ := h
  constructor <;> omega
theorem cells_sum {t : List Node} (h : TreeK t) {i : Nat} (hi : i < t.length) (hk : (nodeAt t i).kind = 1) (hne : kids t i ≠ []) :
    sumI (requests (gridOf t i (kids t i)).cols (colSpans (gridOf t i (kids t i)).cells)) ≤ 1700 ∧ sumI (requests (gridOf t i (kids t i)).rows (rowSpans (gridOf t i (kids t i)).cells)) ≤ 1700 := by
  have hg := grid_ok h hi hk
  have r1 := requests_most hg.cols hg.cspans
  have r2 := requests_most hg.rows hg.rspans
  have hc := cnt_eq h hi
  have hle := cnt_le h hi
  have h10 := h.hi
  have hmul : sumI ((kids t i).map fun k => 170 * cnt t k) = 170 * sumI ((kids t i).map (cnt t)) := by
    generalize kids t i = ks
    induction ks with
    | nil => rfl
    | cons x xs ih => simp only [List.map_cons, sumI, ih]; omega
  have hcl := fun k hk' => cellOf_ok h hi (k := k) hk' hk (wish_le h (h.kid hk').1) _ rfl
  have m1 : sumI ((kids t i).map (Span.need ∘ colSpan ∘ fun k => cellOf (nodeAt t k) (wish t k))) ≤ sumI ((kids t i).map fun k => 170 * cnt t k) := sumI_mono fun k hk' => by
    have := hcl k hk'
    have := wish_bd h _ k (Nat.le_refl _) (h.kid hk').1
    unfold WishB at this
    simp only [Function.comp, colSpan, cellOf] at *; omega
  have m2 : sumI ((kids t i).map (Span.need ∘ rowSpan ∘ fun k => cellOf (nodeAt t k) (wish t k))) ≤ sumI ((kids t i).map fun k => 170 * cnt t k) := sumI_mono fun k hk' => by
    have := hcl k hk'
    have := wish_bd h _ k (Nat.le_refl _) (h.kid hk').1
    unfold WishB at this
    simp only [Function.comp, rowSpan, cellOf] at *; omega
  simp only [gridOf, cellsOf, colSpans, rowSpans, List.map_map] at r1 r2 ⊢
  omega
end Go.Proofs.YtpfhnhhkfobjnaaGreat

namespace Go.Proofs.YtpfhnhhkfobjnaaGreat
open Go.Fw

theorem grid_bd {t : List Node} (h : TreeK t) {i : Nat} (hi : i < t.length) (hk : (nodeAt t i).kind = 1) {r : Rect} (hw : 0 ≤ r.w ∧ r.w ≤ 16384) (hh : 0 ≤ r.h ∧ r.h ≤ 16384) :
    ∀ q ∈ gridRectsIn (gridOf t i (kids t i)) r, 0 ≤ q.w ∧ q.w ≤ max r.w 1700 ∧ 0 ≤ q.h ∧ q.h ≤ max r.h 1700 ∧ r.x ≤ q.x ∧ q.x ≤ r.x + max r.w 1700 ∧ r.y ≤ q.y ∧ q.y ≤ r.y + max r.h 1700 := by
  intro q hq
  have hg := grid_ok h hi hk
  obtain ⟨c, hc, rfl⟩ := List.mem_map.1 hq
  have hne : kids t i ≠ [] := by
    intro e
    simp only [gridOf, cellsOf, e, List.map_nil] at hc
    cases hc
  have hs := cells_sum h hi hk hne
  have hX := hg.xcol hw
  have hY := hg.xrow hh
  have sX := (hg.csz hw).most
  have sY := (hg.rsz hh).most
  have ok := hg.ok c hc
  have pX := hX.part c.col.toNat c.manyCols.toNat
  have pY := hY.part c.row.toNat c.manyRows.toNat
  have hb := inset_bd (r := areaOf (colSizes (gridOf t i (kids t i)) r.w) (rowSizes (gridOf t i (kids t i)) r.h) r c) (px := c.padX) (py := c.padY) (by simp only [areaOf]; omega) (by simp only [areaOf]; omega) (by omega) (by omega)
  simp only [areaOf] at hb
  have s1 := stuck_bd (room := (inset (areaOf (colSizes (gridOf t i (kids t i)) r.w) (rowSizes (gridOf t i (kids t i)) r.h) r c) c.padX c.padY).w) (size := c.w) (a := bitL c.stick) (b := bitR c.stick) (by simp only [areaOf]; omega) (by omega)
  have s2 := stuck_bd (room := (inset (areaOf (colSizes (gridOf t i (kids t i)) r.w) (rowSizes (gridOf t i (kids t i)) r.h) r c) c.padX c.padY).h) (size := c.h) (a := bitT c.stick) (b := bitB c.stick) (by simp only [areaOf]; omega) (by omega)
  simp only [cellRect, cellIn]
  simp only [areaOf] at s1 s2 ⊢
  omega

theorem kid_bd {t : List Node} (h : TreeK t) {i k : Nat} (hi : i < t.length) (hik : i < k) (hk : k < 11) {r : Rect} (hr : RB i r) : ∀ q ∈ kidRects t i r, RB k q := by
  have h10 := h.hi
  have hin := hr.in (by omega)
  obtain ⟨h1, h2, h3, h4⟩ := hr
  intro q hq
  unfold kidRects at hq
  split at hq
  · obtain ⟨a, b⟩ := items_ok h i
    have := packed_inR (by omega) b hin q hq
    unfold InR at this
    constructor <;> omega
  · split at hq
    · rename_i hk1
      have := grid_bd h hi hk1 (r := r) (by omega) (by omega) q hq
      constructor <;> omega
    · obtain ⟨m, hm, rfl⟩ := List.mem_map.1 hq
      have hm1 := (h.kid hm).1
      have hp := (nodeOk_iff (h.ok m hm1)).2.2.2.1
      rw [nodeAt_eq hm1]
      have := placed_bd (r := r) hp (by omega) (by omega)
      constructor <;> omega

theorem kid_ex {t : List Node} (h : TreeK t) {k : Nat} (hk : k < t.length) (h0 : k ≠ 0) : ∃ (i : Nat) (j : Nat) (hj : j < (kids t i).length), i < k ∧ (kids t i)[j] = k ∧ t[k].parent = (i : Int) := by
  have hp := h.up k hk (by omega)
  have hm : k ∈ kids t t[k].parent.toNat := mem_kids.2 ⟨hk, by rw [nodeAt_eq hk]; omega⟩
  obtain ⟨j, hj, e⟩ := List.mem_iff_getElem.1 hm
  exact ⟨t[k].parent.toNat, j, hj, by omega, e, by omega⟩
theorem rect_bd {t : List Node} (h : TreeK t) {w v : Int} (hw : 0 ≤ w ∧ w ≤ 400) (hv : 0 ≤ v ∧ v ≤ 400) : ∀ k, k < t.length → RB k (rectAt t w v k) := by
  intro k
  induction k using Nat.strongRecOn with
  | ind k ih =>
    intro hk
    by_cases h0 : k = 0
    · subst h0
      rw [rectAt_zero]
      constructor <;> dsimp only <;> omega
    · obtain ⟨i, j, hj, hik, e, _⟩ := kid_ex h hk h0
      have hr := rectAt_kid h (w := w) (v := v) hj
      rw [e] at hr
      rw [hr]
      have := h.hi
      exact kid_bd h (by omega) hik (by omega) (ih i hik (by omega)) _ (List.getElem_mem _)

/-- Rectangles of which some are laid out. -/
def lay (t : List Node) (w h : Int) (A : Nat → Bool) (out : List Rect) : List Rect := out.mapIdx fun j q => if A j = true then rectAt t w h j else q
section
variable {t : List Node} {w h : Int} {A B : Nat → Bool} {out : List Rect}
theorem lay_len : (lay t w h A out).length = out.length := by simp [lay]
theorem lay_at {k : Nat} (hk : k < out.length) (ha : A k = true) : (lay t w h A out)[k]? = some (rectAt t w h k) := by
  simp [lay, hk, ha]
theorem lay_set {k : Nat} : (lay t w h A out).set k (rectAt t w h k) = lay t w h (fun j => A j || decide (j = k)) out := by
  refine List.ext_getElem (by simp [lay]) fun i h1 h2 => ?_
  rw [List.getElem_set]
  simp only [lay, List.getElem_mapIdx]
  by_cases e : k = i
  · subst e
    simp
  · rw [if_neg e]
    have : ¬ i = k := fun e' => e e'.symm
    simp [this]
theorem lay_congr (hab : ∀ j, j < out.length → A j = B j) : lay t w h A out = lay t w h B out := by
  refine List.ext_getElem (by simp [lay]) fun i h1 h2 => ?_
  simp only [lay, List.getElem_mapIdx]
  rw [hab i (by simpa [lay] using h1)]
theorem lay_none (ha : ∀ j, j < out.length → A j = false) : lay t w h A out = out := by
  refine List.ext_getElem (by simp [lay]) fun i h1 h2 => ?_
  simp only [lay, List.getElem_mapIdx]
  rw [ha i h2]
  simp
theorem lay_lay : lay t w h B (lay t w h A out) = lay t w h (fun j => A j || B j) out := by
  refine List.ext_getElem (by simp [lay]) fun i h1 h2 => ?_
  simp only [lay, List.getElem_mapIdx]
  by_cases ha : A i = true <;> by_cases hb : B i = true <;> simp [ha, hb]
theorem lay_all (hl : out.length = t.length) (ha : ∀ j, j < t.length → A j = true) : lay t w h A out = layoutOf t w h := by
  refine List.ext_getElem (by simp [lay, layoutOf, hl]) fun i h1 h2 => ?_
  have hi : i < t.length := by simpa [layoutOf] using h2
  simp only [lay, List.getElem_mapIdx, layoutOf, List.getElem_map, List.getElem_range]
  rw [ha i hi]
  rfl
end
/-- A node is another one, or below it. -/
def belF (t : List Node) : Nat → Nat → Nat → Bool
  | 0, _, _ => false
  | f + 1, i, j => decide (j = i) || (kids t i).any fun k => belF t f k j
def bel (t : List Node) (i j : Nat) : Bool := belF t t.length i j
theorem belF_fuel {t : List Node} (h : TreeK t) {j : Nat} : ∀ (f g i : Nat), i < t.length → t.length - i ≤ f → t.length - i ≤ g → belF t f i j = belF t g i j := by
  intro f
  induction f with
  | zero => intro g i hi h1; omega
  | succ f ih =>
    intro g i hi h1 h2
    cases g with
    | zero => omega
    | succ g =>
      simp only [belF]
      congr 1
      rw [Bool.eq_iff_iff, List.any_eq_true, List.any_eq_true]
      refine exists_congr fun k => and_congr_right fun hk => ?_
      obtain ⟨a, b, _⟩ := h.kid hk
      rw [ih g k a (by omega) (by omega)]
theorem bel_eq {t : List Node} (h : TreeK t) {i j : Nat} (hi : i < t.length) : bel t i j = (decide (j = i) || (kids t i).any fun k => bel t k j) := by
  unfold bel
  obtain ⟨n, hn⟩ : ∃ n, t.length = n + 1 := ⟨t.length - 1, by omega⟩
  rw [hn]
  simp only [belF]
  congr 1
  rw [Bool.eq_iff_iff, List.any_eq_true, List.any_eq_true]
  refine exists_congr fun k => and_congr_right fun hk => ?_
  obtain ⟨a, b, _⟩ := h.kid hk
  rw [belF_fuel h n (n + 1) k a (by omega) (by omega)]
  rfl
theorem bel_kid {t : List Node} (h : TreeK t) {p j : Nat} (hj : j ∈ kids t p) : ∀ m i : Nat, t.length - i ≤ m → i < t.length → bel t i p = true → bel t i j = true := by
  intro m
  induction m with
  | zero => intro i h1 h2; omega
  | succ m ih =>
    intro i h1 h2 hb
    rw [bel_eq h h2, Bool.or_eq_true, decide_eq_true_eq, List.any_eq_true] at hb ⊢
    rcases hb with rfl | ⟨k, hk, hb⟩
    · refine .inr ⟨j, hj, ?_⟩
      obtain ⟨a, _, _⟩ := h.kid hj
      rw [bel_eq h a]
      simp
    · obtain ⟨a, b, _⟩ := h.kid hk
      exact .inr ⟨k, hk, ih k (by omega) a hb⟩
theorem bel_root {t : List Node} (h : TreeK t) : ∀ k, k < t.length → bel t 0 k = true := by
  intro k
  have hlo := h.lo
  induction k using Nat.strongRecOn with
  | ind k ih =>
    intro hk
    by_cases h0 : k = 0
    · subst h0
      rw [bel_eq h hk]; simp
    · obtain ⟨i, j, hj, hik, e, _⟩ := kid_ex h hk h0
      have := bel_kid h (List.getElem_mem hj) _ 0 (Nat.le_refl _) (by omega) (ih i hik (by omega))
      rwa [e] at this
end Go.Proofs.YtpfhnhhkfobjnaaGreat

namespace Go.Fw

/-- A nil slice in a cell of an own box is taken for one of an own array without rows. -/
theorem Weak.ownBoxCell {s : St} (b sz : Nat) {cells : List V} (i : Nat) (hb : s.objs[b]? = some (.box cells)) (hi : cells[i]? = some .nils) : Weak s ⟨s.env, (s.objs ++ [O.arr sz []]).set b (.box (cells.set i (.msl s.objs.length sz 0 0))), s.n, s.fx⟩ := by
  refine ⟨fun x a w hC => ?_⟩
  obtain ⟨ok, ρ, hI, hF, hE, hn, hd, hx⟩ := hC
  obtain ⟨h1, h2, h3⟩ := step_new (w' := w) hI hF (Nat.le_refl _) (fun _ _ => rfl) rfl rfl rfl none (fun b hb => by cases hb)
    (o := O.arr sz []) ⟨fun r hr => (by cases hr), .inl ⟨rfl, (by rw [← hI.len]; simp)⟩⟩
  have hlt : b < s.objs.length := (List.getElem?_eq_some_iff.1 hb).1
  have hb' : (s.objs ++ [O.arr sz []])[b]? = some (.box cells) := by rw [List.getElem?_append_left hlt]; exact hb
  obtain ⟨blk, cs, t, r1, r2, r3, r4⟩ := h1.own _ _ hb'
  have hor : ORep w ok (ρ ++ [none]) b (.box (cells.set i (.msl s.objs.length sz 0 0))) := by
    refine ⟨blk, cs, t, r1, r2, by rw [List.length_set]; exact r3, fun j c hj => ?_⟩
    rw [List.getElem?_set] at hj
    split at hj
    · rename_i e
      subst e
      split at hj
      · obtain rfl : V.msl s.objs.length sz 0 0 = c := by simpa using hj
        have := r4 _ _ hi
        generalize Array.getD _ _ _ = u at this ⊢
        cases this
        exact .msl0 (by rw [List.length_append, hI.len]; simp)
      · simp at hj
    · exact r4 _ _ hj
  obtain ⟨g1, g2, g3⟩ := step_write (w' := w) h1 h2 hb' rfl r1 rfl (fun _ _ => rfl) rfl rfl rfl rfl hor rfl
  exact ⟨ok, ρ ++ [none], g1, g2, fun j => g3 _ _ (h3 _ _ (hE j)), hn, hd, hx⟩
end Go.Fw

