import Derived.Test.YtemihgpcodcjgaaG3
import Derived.Test.YtemihgpcodcjgaaR9
set_option linter.unusedSimpArgs false
set_option linter.unusedVariables false
namespace Go.Proofs.Ytemihgpcodcjgaa
open Go.Fw Go.ChangeShapes Go.WideShapes Go.Deep Go.RowKit Go.ChangeAt
section
variable {H : Type} {enc : TypeId × Value → H} {w : World} {base : Nat} {spare : Nat → Bool} {held : Bool}
def okGrid (g : Grid) : Prop := g.cols.length ≤ maxLen ∧ g.rows.length ≤ maxLen ∧ g.cells.length ≤ maxLen
theorem decLine (n : Nat) (cs : List Value) (y : DataW H × List MemPlace) (h : DataW.trod enc Try.prog w base spare held n 102 cs = some y) : DecR w encLine (fun _ => True) cs := by
  obtain ⟨ys, n', _, _, _, hlen, hf⟩ := DataW.trod_struct Try.underlying102 h
  have hlen' : ys.length = 2 := hlen
  obtain ⟨z0, e0⟩ : ∃ z, ys[0]? = some z := ⟨ys[0]'(by omega), List.getElem?_eq_getElem _⟩
  obtain ⟨k0, g0⟩ := fieldI ((hf 0 _ rfl).trans e0)
  obtain ⟨z1, e1⟩ : ∃ z, ys[1]? = some z := ⟨ys[1]'(by omega), List.getElem?_eq_getElem _⟩
  obtain ⟨k1, g1⟩ := fieldI ((hf 1 _ rfl).trans e1)
  refine ⟨⟨k0, k1⟩, trivial, fun j d hd => ?_⟩
  simp only [encLine] at hd
  match j with
  | 0 => cases hd; exact ⟨_, g0, .int⟩
  | 1 => cases hd; exact ⟨_, g1, .int⟩
  | n + 2 => simp at hd

theorem decSpan (n : Nat) (cs : List Value) (y : DataW H × List MemPlace) (h : DataW.trod enc Try.prog w base spare held n 104 cs = some y) : DecR w encSpan (fun _ => True) cs := by
  obtain ⟨ys, n', _, _, _, hlen, hf⟩ := DataW.trod_struct Try.underlying104 h
  have hlen' : ys.length = 3 := hlen
  obtain ⟨z0, e0⟩ : ∃ z, ys[0]? = some z := ⟨ys[0]'(by omega), List.getElem?_eq_getElem _⟩
  obtain ⟨k0, g0⟩ := fieldI ((hf 0 _ rfl).trans e0)
  obtain ⟨z1, e1⟩ : ∃ z, ys[1]? = some z := ⟨ys[1]'(by omega), List.getElem?_eq_getElem _⟩
  obtain ⟨k1, g1⟩ := fieldI ((hf 1 _ rfl).trans e1)
  obtain ⟨z2, e2⟩ : ∃ z, ys[2]? = some z := ⟨ys[2]'(by omega), List.getElem?_eq_getElem _⟩
  obtain ⟨k2, g2⟩ := fieldI ((hf 2 _ rfl).trans e2)
  refine ⟨⟨k0, k1, k2⟩, trivial, fun j d hd => ?_⟩
  simp only [encSpan] at hd
  match j with
  | 0 => cases hd; exact ⟨_, g0, .int⟩
  | 1 => cases hd; exact ⟨_, g1, .int⟩
  | 2 => cases hd; exact ⟨_, g2, .int⟩
  | n + 3 => simp at hd

theorem decCell (n : Nat) (cs : List Value) (y : DataW H × List MemPlace) (h : DataW.trod enc Try.prog w base spare held n 122 cs = some y) : DecR w encCell (fun _ => True) cs := by
  obtain ⟨ys, n', _, _, _, hlen, hf⟩ := DataW.trod_struct Try.underlying122 h
  have hlen' : ys.length = 9 := hlen
  obtain ⟨z0, e0⟩ : ∃ z, ys[0]? = some z := ⟨ys[0]'(by omega), List.getElem?_eq_getElem _⟩
  obtain ⟨k0, g0⟩ := fieldI ((hf 0 _ rfl).trans e0)
  obtain ⟨z1, e1⟩ : ∃ z, ys[1]? = some z := ⟨ys[1]'(by omega), List.getElem?_eq_getElem _⟩
  obtain ⟨k1, g1⟩ := fieldI ((hf 1 _ rfl).trans e1)
  obtain ⟨z2, e2⟩ : ∃ z, ys[2]? = some z := ⟨ys[2]'(by omega), List.getElem?_eq_getElem _⟩
  obtain ⟨k2, g2⟩ := fieldI ((hf 2 _ rfl).trans e2)
  obtain ⟨z3, e3⟩ : ∃ z, ys[3]? = some z := ⟨ys[3]'(by omega), List.getElem?_eq_getElem _⟩
  obtain ⟨k3, g3⟩ := fieldI ((hf 3 _ rfl).trans e3)
  obtain ⟨z4, e4⟩ : ∃ z, ys[4]? = some z := ⟨ys[4]'(by omega), List.getElem?_eq_getElem _⟩
  obtain ⟨k4, g4⟩ := fieldI ((hf 4 _ rfl).trans e4)
  obtain ⟨z5, e5⟩ : ∃ z, ys[5]? = some z := ⟨ys[5]'(by omega), List.getElem?_eq_getElem _⟩
  obtain ⟨k5, g5⟩ := fieldI ((hf 5 _ rfl).trans e5)
  obtain ⟨z6, e6⟩ : ∃ z, ys[6]? = some z := ⟨ys[6]'(by omega), List.getElem?_eq_getElem _⟩
  obtain ⟨k6, g6⟩ := fieldI ((hf 6 _ rfl).trans e6)
  obtain ⟨z7, e7⟩ : ∃ z, ys[7]? = some z := ⟨ys[7]'(by omega), List.getElem?_eq_getElem _⟩
  obtain ⟨k7, g7⟩ := fieldI ((hf 7 _ rfl).trans e7)
  obtain ⟨z8, e8⟩ : ∃ z, ys[8]? = some z := ⟨ys[8]'(by omega), List.getElem?_eq_getElem _⟩
  obtain ⟨k8, g8⟩ := fieldI ((hf 8 _ rfl).trans e8)
  refine ⟨⟨k0, k1, k2, k3, k4, k5, k6, k7, k8⟩, trivial, fun j d hd => ?_⟩
  simp only [encCell] at hd
  match j with
  | 0 => cases hd; exact ⟨_, g0, .int⟩
  | 1 => cases hd; exact ⟨_, g1, .int⟩
  | 2 => cases hd; exact ⟨_, g2, .int⟩
  | 3 => cases hd; exact ⟨_, g3, .int⟩
  | 4 => cases hd; exact ⟨_, g4, .int⟩
  | 5 => cases hd; exact ⟨_, g5, .int⟩
  | 6 => cases hd; exact ⟨_, g6, .int⟩
  | 7 => cases hd; exact ⟨_, g7, .int⟩
  | 8 => cases hd; exact ⟨_, g8, .int⟩
  | n + 9 => simp at hd

theorem decGrid (n : Nat) (cs : List Value) (y : DataW H × List MemPlace) (h : DataW.trod enc Try.prog w base spare held n 25 cs = some y) : DecR w encGrid okGrid cs := by
  obtain ⟨ys, n', _, _, _, hlen, hf⟩ := DataW.trod_struct Try.underlying25 h
  have hlen' : ys.length = 3 := hlen
  obtain ⟨z0, e0⟩ : ∃ z, ys[0]? = some z := ⟨ys[0]'(by omega), List.getElem?_eq_getElem _⟩
  obtain ⟨u0, k0, g0, r0, l0⟩ := fieldL (nf := 2) (t := 22) Try.underlying22 (by kernel_rfl) (by kernel_rfl) (by omega) (fun _ => rfl) decLine ((hf 0 _ rfl).trans e0)
  obtain ⟨z1, e1⟩ : ∃ z, ys[1]? = some z := ⟨ys[1]'(by omega), List.getElem?_eq_getElem _⟩
  obtain ⟨u1, k1, g1, r1, l1⟩ := fieldL (nf := 2) (t := 22) Try.underlying22 (by kernel_rfl) (by kernel_rfl) (by omega) (fun _ => rfl) decLine ((hf 1 _ rfl).trans e1)
  obtain ⟨z2, e2⟩ : ∃ z, ys[2]? = some z := ⟨ys[2]'(by omega), List.getElem?_eq_getElem _⟩
  obtain ⟨u2, k2, g2, r2, l2⟩ := fieldL (nf := 9) (t := 23) Try.underlying23 (by kernel_rfl) (by kernel_rfl) (by omega) (fun _ => rfl) decCell ((hf 2 _ rfl).trans e2)
  refine ⟨⟨k0, k1, k2⟩, ⟨l0, l1, l2⟩, fun j d hd => ?_⟩
  simp only [encGrid] at hd
  match j with
  | 0 => cases hd; exact ⟨_, g0, r0⟩
  | 1 => cases hd; exact ⟨_, g1, r1⟩
  | 2 => cases hd; exact ⟨_, g2, r2⟩
  | n + 3 => simp at hd

end
end Go.Proofs.Ytemihgpcodcjgaa
