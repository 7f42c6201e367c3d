import Derived.Test.YtemihgpcodcjgaaG8
set_option linter.unusedSimpArgs false
set_option linter.unusedVariables false
namespace Go.Proofs.Ytemihgpcodcjgaa
open Go.Fw

def nzI (ws : List Int) : Int := sumI (ws.map fun w => if w = 0 then 0 else 1)

theorem sumI_nonneg {xs : List Int} (h : ∀ x ∈ xs, 0 ≤ x) : 0 ≤ sumI xs := by
  induction xs with
  | nil => simp [sumI]
  | cons x xs ih =>
    have := h x (by simp)
    have := ih fun y hy => h y (by simp [hy])
    simp only [sumI]; omega
theorem sumI_mem {xs : List Int} (h : ∀ x ∈ xs, 0 ≤ x) {y : Int} (hy : y ∈ xs) : y ≤ sumI xs := by
  induction xs with
  | nil => cases hy
  | cons x xs ih =>
    have := h x (by simp)
    have := sumI_nonneg (xs := xs) fun y hy => h y (by simp [hy])
    simp only [sumI]
    rcases List.mem_cons.1 hy with rfl | hy
    · omega
    · have := ih (fun y hy => h y (by simp [hy])) hy; omega
theorem sumI_set {xs : List Int} {k : Nat} (hk : k < xs.length) (v : Int) : sumI (xs.set k v) = sumI xs - xs[k] + v := by
  induction xs generalizing k with
  | nil => simp at hk
  | cons x xs ih =>
    cases k with
    | zero => simp only [List.set_cons_zero, sumI, List.getElem_cons_zero]; omega
    | succ k =>
      simp only [List.set_cons_succ, sumI, List.getElem_cons_succ]
      rw [ih (by simpa using hk)]; omega
theorem sumI_zeros {α : Type} (xs : List α) : sumI (xs.map fun _ => (0 : Int)) = 0 := by
  induction xs with
  | nil => rfl
  | cons x xs ih => simp only [List.map_cons, sumI, ih]; omega
theorem nz_nonneg (ws : List Int) : 0 ≤ nzI ws := by
  refine sumI_nonneg fun x hx => ?_
  obtain ⟨w, _, rfl⟩ := List.mem_map.1 hx
  split <;> omega
theorem nz_take {ws : List Int} {k : Nat} (h : k < ws.length) : nzI (ws.take (k + 1)) = nzI (ws.take k) + if ws[k] = 0 then 0 else 1 := by
  rw [nzI, nzI, List.take_succ_eq_append_getElem h, List.map_append, sumI_app]; simp [sumI]

theorem floors_rest {n S : Int} (hn : 0 ≤ n) (hS : 0 < S) : ∀ ws : List Int, (∀ x ∈ ws, 0 ≤ x) →
    S * sumI (ws.map fun w => (n * w).tdiv S) ≤ n * sumI ws ∧ n * sumI ws ≤ S * sumI (ws.map fun w => (n * w).tdiv S) + nzI ws * (S - 1) := by
  intro ws
  induction ws with
  | nil => intro _; simp [sumI, nzI]
  | cons w ws ih =>
    intro h
    have hw := h w (by simp)
    obtain ⟨i1, i2⟩ := ih fun y hy => h y (by simp [hy])
    have hm : 0 ≤ n * w := Int.mul_nonneg hn hw
    have hq : (n * w).tdiv S = n * w / S := Int.tdiv_eq_ediv_of_nonneg hm
    have q1 := Int.mul_ediv_add_emod (n * w) S
    have q2 := Int.emod_nonneg (n * w) (show S ≠ 0 by omega)
    have q3 := Int.emod_lt_of_pos (n * w) hS
    have e : nzI (w :: ws) = (if w = 0 then 0 else 1) + nzI ws := rfl
    simp only [List.map_cons, sumI, e, Int.mul_add, Int.add_mul, hq]
    by_cases h0 : w = 0
    · subst h0
      simp only [Int.mul_zero, Int.zero_ediv, if_true, Int.zero_mul]
      omega
    · rw [if_neg h0]
      constructor <;> omega

theorem left_bd {n : Int} {ws : List Int} (h : WOk ws) (hn : 0 ≤ n) (h0 : sumI ws ≠ 0) : 0 ≤ n - sumI (floors n ws) ∧ n - sumI (floors n ws) ≤ nzI ws := by
  have hS := h.sum
  obtain ⟨h1, h2⟩ := floors_rest (n := n) (S := sumI ws) hn (by omega) ws fun x hx => (h.w x hx).1
  rw [show (ws.map fun w => (n * w).tdiv (sumI ws)) = floors n ws from rfl] at h1 h2
  have hz := nz_nonneg ws
  generalize sumI (floors n ws) = F at *
  generalize sumI ws = S at *
  generalize nzI ws = Z at *
  constructor
  · by_cases hc : F ≤ n
    · omega
    · have := Int.mul_le_mul_of_nonneg_left (show n + 1 ≤ F by omega) (show 0 ≤ S by omega)
      rw [Int.mul_add, Int.mul_comm S n] at this
      omega
  · by_cases hc : n - F ≤ Z
    · omega
    · have := Int.mul_le_mul_of_nonneg_left (show F + Z + 1 ≤ n by omega) (show 0 ≤ S by omega)
      rw [Int.mul_add, Int.mul_add, Int.mul_comm S n] at this
      rw [Int.mul_sub, Int.mul_comm Z S] at h2
      omega

theorem bump_left {ws bs : List Int} {m : Int} (hl : bs.length = ws.length) (hm : 0 ≤ m) : ∀ k, k ≤ ws.length → (bumpTo ws bs m k).2 = max 0 (m - nzI (ws.take k)) := by
  intro k
  induction k with
  | zero => intro _; simp only [bumpTo, List.take_zero]; simp only [nzI, List.map_nil, sumI]; omega
  | succ k ih =>
    intro hk
    have e := ih (by omega)
    have hz := nz_take (ws := ws) (k := k) (by omega)
    rw [bumpTo_succ (by omega) (by omega), hz]
    have hw := nz_nonneg (ws.take k)
    by_cases h0 : ws[k] = 0
    · rw [if_neg (fun h => h.1 h0), e, if_pos h0]; omega
    · rw [if_neg h0]
      by_cases h1 : 0 < (bumpTo ws bs m k).2
      · rw [if_pos ⟨h0, h1⟩]; dsimp only; omega
      · rw [if_neg (fun h => h1 h.2)]; omega
theorem bump_sum {ws bs : List Int} {m : Int} (hl : bs.length = ws.length) : ∀ k, k ≤ ws.length → sumI (bumpTo ws bs m k).1 = sumI bs + m - (bumpTo ws bs m k).2 := by
  intro k
  induction k with
  | zero => intro _; simp only [bumpTo]; omega
  | succ k ih =>
    intro hk
    have e := ih (by omega)
    have ha := bumpTo_at (ws := ws) (bs := bs) (m := m) k k (Nat.le_refl _)
    have hbl := bumpTo_len (ws := ws) (bs := bs) (m := m) k
    rw [List.getElem?_eq_getElem (by omega), List.getElem?_eq_getElem (by omega)] at ha
    injection ha with ha
    rw [bumpTo_succ (by omega) (by omega)]
    split
    · dsimp only; rw [sumI_set (by omega), ha]; omega
    · exact e
theorem bump_nonneg {ws bs : List Int} {m : Int} (hb : ∀ x ∈ bs, 0 ≤ x) : ∀ k, ∀ x ∈ (bumpTo ws bs m k).1, 0 ≤ x := by
  intro k
  induction k with
  | zero => exact hb
  | succ k ih =>
    intro x hx
    simp only [bumpTo] at hx
    split at hx
    · rcases List.mem_or_eq_of_mem_set hx with hx | rfl
      · exact ih x hx
      · rename_i hc
        cases hg : (bumpTo ws bs m k).1[k]? with
        | none => simp
        | some y => have := ih y (List.mem_of_getElem? hg); simp only [Option.getD_some]; omega
    · exact ih x hx
theorem bump_zero {ws bs : List Int} {m : Int} {i : Nat} (h : ws[i]? = some 0) : ∀ k, (bumpTo ws bs m k).1[i]? = bs[i]? := by
  intro k
  induction k with
  | zero => rfl
  | succ k ih =>
    simp only [bumpTo]
    split
    · rename_i hc
      have : k ≠ i := by rintro rfl; rw [h] at hc; exact hc.1 rfl
      rw [List.getElem?_set_ne this]; exact ih
    · exact ih

theorem spread_len {n : Int} {ws : List Int} : (spread n ws).length = ws.length := by
  unfold spread; split
  · simp
  · rw [bumpTo_len, floors_len]
theorem spread_sum {n : Int} {ws : List Int} (h : WOk ws) (hn : 0 ≤ n) : sumI (spread n ws) = n := by
  have := h.lo
  unfold spread; split
  · rw [sumI_set (by simp; omega), sumI_zeros]
    simp
  · rename_i h0
    obtain ⟨b1, b2⟩ := left_bd h hn h0
    have e := bump_left (ws := ws) (bs := floors n ws) floors_len b1 ws.length (Nat.le_refl _)
    rw [List.take_length] at e
    rw [bump_sum floors_len ws.length (Nat.le_refl _), e]; omega
theorem spread_nonneg {n : Int} {ws : List Int} (h : WOk ws) (hn : 0 ≤ n) : ∀ x ∈ spread n ws, 0 ≤ x := by
  unfold spread; split
  · intro x hx
    rcases List.mem_or_eq_of_mem_set hx with hx | rfl
    · obtain ⟨_, _, rfl⟩ := List.mem_map.1 hx; omega
    · exact hn
  · refine bump_nonneg (fun x hx => ?_) _
    obtain ⟨w, hw, rfl⟩ := List.mem_map.1 hx
    exact Int.tdiv_nonneg (Int.mul_nonneg hn (h.w w hw).1) h.sum
theorem spread_bd {n : Int} {ws : List Int} (h : WOk ws) (hn : 0 ≤ n) : ∀ x ∈ spread n ws, 0 ≤ x ∧ x ≤ n := by
  intro x hx
  have h1 := spread_nonneg h hn
  have h2 := sumI_mem h1 hx
  rw [spread_sum h hn] at h2
  exact ⟨h1 x hx, h2⟩
theorem spread_zero {n : Int} {ws : List Int} (h0 : sumI ws ≠ 0) {i : Nat} (h : ws[i]? = some 0) : (spread n ws)[i]? = some 0 := by
  unfold spread
  rw [if_neg h0, bump_zero h, floors, List.getElem?_map, h]
  simp
end Go.Proofs.Ytemihgpcodcjgaa
