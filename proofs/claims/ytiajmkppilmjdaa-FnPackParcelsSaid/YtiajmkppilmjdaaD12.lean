import Derived.Test.YtiajmkppilmjdaaD11
set_option linter.unusedSimpArgs false
set_option linter.unusedVariables false
namespace Go.Proofs.Ytiajmkppilmjdaa
open Go.Fw

/-- Two rectangles have no points in common. -/
def Apart (a b : Rect) : Prop := min (a.x + a.w) (b.x + b.w) - max a.x b.x ≤ 0 ∨ min (a.y + a.h) (b.y + b.h) - max a.y b.y ≤ 0
theorem Apart.mono {a b c : Rect} (h : Apart a b) (hi : Ins b c) : Apart a c := by unfold Apart Ins at *; omega
def areaR (r : Rect) : Int := r.w * r.h
def sumA : List Rect → Int
  | [] => 0
  | r :: rs => areaR r + sumA rs
theorem sumA_app (a b : List Rect) : sumA (a ++ b) = sumA a + sumA b := by
  induction a with
  | nil => simp [sumA]
  | cons x a ih => simp only [List.cons_append, sumA, ih]; omega
theorem sumA_take {xs : List Rect} {k : Nat} (h : k < xs.length) : sumA (xs.take (k + 1)) = sumA (xs.take k) + xs[k].w * xs[k].h := by
  rw [List.take_succ_eq_append_getElem h, sumA_app]; simp [sumA, areaR]

theorem cut_parts {r : Rect} {side n : Int} (h : RectIn r) (hn : 0 ≤ n) : Ins r (cut r side n).1 ∧ Ins r (cut r side n).2 ∧ Apart (cut r side n).1 (cut r side n).2 ∧ areaR (cut r side n).1 + areaR (cut r side n).2 = areaR r := by
  obtain ⟨h1, h2, h3, h4, h5, h6⟩ := h
  have e1 : r.w * (r.h - min n r.h) = r.w * r.h - r.w * min n r.h := Int.mul_sub ..
  have e2 : (r.w - min n r.w) * r.h = r.w * r.h - min n r.w * r.h := Int.sub_mul ..
  unfold cut areaR
  split
  · refine ⟨?_, ?_, ?_, ?_⟩ <;> (try unfold Ins) <;> (try unfold Apart) <;> simp only <;> omega
  · split
    · refine ⟨?_, ?_, ?_, ?_⟩ <;> (try unfold Ins) <;> (try unfold Apart) <;> simp only <;> omega
    · split
      · refine ⟨?_, ?_, ?_, ?_⟩ <;> (try unfold Ins) <;> (try unfold Apart) <;> simp only <;> omega
      · refine ⟨?_, ?_, ?_, ?_⟩ <;> (try unfold Ins) <;> (try unfold Apart) <;> simp only <;> omega

def allOf (xs : List Pack) (r : Rect) (k : Nat) : List Rect := (parTo xs r k).1 ++ [(parTo xs r k).2]

theorem allOf_inv {xs : List Pack} {r : Rect} (hl : xs.length ≤ 7) (hv : xs.all validPack = true) (hr : RectIn r) : ∀ k, k ≤ xs.length → (allOf xs r k).Pairwise Apart ∧ (∀ q ∈ allOf xs r k, Ins r q) ∧ sumA (allOf xs r k) = areaR r := by
  intro k
  induction k with
  | zero => intro _; refine ⟨by simp [allOf, parTo], fun q hq => ?_, by simp [allOf, parTo, sumA]⟩; simp [allOf, parTo] at hq; subst hq; exact Ins.rfl'
  | succ k ih =>
    intro hk
    obtain ⟨h1, h2, h3⟩ := ih (by omega)
    have hi := (parTo_inv hl hv hr k (by omega)).2.1
    obtain ⟨p1, p2, p3, p4⟩ := cut_parts (side := xs[k].side) hi (parNeed_bd (k := k) hl hv (by omega) hi).1
    have hrest : Ins r (parTo xs r k).2 := h2 _ (by simp [allOf])
    unfold allOf at *
    rw [parTo_succ (by omega)]
    generalize hc : cut (parTo xs r k).2 xs[k].side (parNeed xs k xs[k] (parTo xs r k).2) = c at *
    rw [List.pairwise_append] at h1
    obtain ⟨g1, _, g2⟩ := h1
    refine ⟨?_, fun q hq => ?_, ?_⟩
    · simp only [List.append_assoc, List.pairwise_append, List.mem_append, List.mem_singleton, List.pairwise_cons, List.cons_append, List.nil_append, List.mem_cons, List.not_mem_nil, or_false]
      refine ⟨g1, ⟨fun b hb => ?_, fun b hb => hb.elim, .nil⟩, fun a ha b hb => ?_⟩
      · rw [hb]; exact p3
      · have := g2 a ha _ (List.mem_singleton.2 rfl)
        rcases hb with rfl | rfl
        · exact this.mono p1
        · exact this.mono p2
    · simp only [List.mem_append, List.mem_singleton] at hq
      rcases hq with (hq | hq) | hq
      · exact h2 q (by simp [hq])
      · subst hq; exact hrest.tr p1
      · subst hq; exact hrest.tr p2
    · simp only [sumA_app, sumA] at h3 ⊢
      omega
end Go.Proofs.Ytiajmkppilmjdaa
