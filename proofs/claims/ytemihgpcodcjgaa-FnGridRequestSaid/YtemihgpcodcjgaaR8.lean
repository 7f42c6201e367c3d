import Derived.Test.YtemihgpcodcjgaaQ1
set_option linter.unusedSimpArgs false
set_option linter.unusedVariables false
namespace Go.Proofs.Ytemihgpcodcjgaa
open Go.Fw

/-- Rows that are filled one by one. -/
def fillRows {α : Type} (enc : α → List D) (z : List D) (xs : List α) (k : Nat) : List (List D) := (xs.take k).map enc ++ List.replicate (xs.length - k) z

theorem fillRows_len {α : Type} {enc : α → List D} {z : List D} {xs : List α} {k : Nat} (hk : k ≤ xs.length) : (fillRows enc z xs k).length = xs.length := by
  simp [fillRows]; omega
theorem fillRows_at {α : Type} {enc : α → List D} {z : List D} {xs : List α} {k : Nat} (hk : k < xs.length) : (fillRows enc z xs k)[k]? = some z := by
  unfold fillRows
  rw [List.getElem?_append_right (by simp; omega)]
  simp only [List.length_map, List.length_take]
  rw [List.getElem?_replicate, if_pos (by omega)]
theorem fillRows_set {α : Type} {enc : α → List D} {z : List D} {xs : List α} {k : Nat} (hk : k < xs.length) : (fillRows enc z xs k).set k (enc xs[k]) = fillRows enc z xs (k + 1) := by
  unfold fillRows
  rw [List.set_append_right _ _ (by simp; omega)]
  simp only [List.length_map, List.length_take]
  rw [show k - min k xs.length = 0 by omega, show xs.length - k = (xs.length - (k + 1)) + 1 by omega, List.replicate_succ, List.set_cons_zero, List.take_succ_eq_append_getElem hk, List.map_append, List.append_assoc]
  rfl
theorem fillRows_all {α : Type} {enc : α → List D} {z : List D} {xs : List α} : fillRows enc z xs xs.length = xs.map enc := by simp [fillRows]
theorem fillRows_zero {α : Type} {enc : α → List D} {z : List D} {xs : List α} : fillRows enc z xs 0 = List.replicate xs.length z := by simp [fillRows]

/-- A slice of rows that is handed over. -/
def ORows {α : Type} (enc : α → List D) (sz : Nat) (xs : List α) : V → List O → Prop := Own (.msl 0 sz 0 xs.length) [.arr sz (xs.map enc)]

theorem ORows.data {α : Type} {P : Program} {f : Nat} {args : List V} {sz : Nat} {enc : α → List D} {xs : List α} (h : ACon P f args [] (ORows enc sz xs)) : ACon P f args [] (Is (.d (.lst (xs.map enc)))) := by
  have h2 : ACon P f args [] (fun r os => r = .d (.lst (xs.map enc)) ∧ os = [.dead]) := by
    refine h.frz ?_
    rintro r os ⟨rfl, rfl⟩
    exact ⟨0, sz, xs.map enc, by rw [List.length_map], rfl, rfl, rfl⟩
  refine h2.ren ?_
  rintro r os ⟨rfl, rfl⟩
  exact ⟨[], .d (.lst (xs.map enc)), [], by decide, rfl, trivial, rfl, rfl, rfl⟩

end Go.Proofs.Ytemihgpcodcjgaa
