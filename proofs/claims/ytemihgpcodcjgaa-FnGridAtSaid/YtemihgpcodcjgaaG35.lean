import Derived.Test.YtemihgpcodcjgaaG32
import Derived.Test.YtemihgpcodcjgaaR3
set_option linter.unusedSimpArgs false
set_option linter.unusedVariables false
namespace Go.Proofs.Ytemihgpcodcjgaa
open Go.Fw

theorem lineIdx_spec {n : Int} : ∀ (xs : List Int) (p i : Int), p ≤ n →
    (∃ k : Nat, k < xs.length ∧ lineIdx n xs p i = i + k ∧ p + sumI (xs.take k) ≤ n ∧ n < p + sumI (xs.take (k + 1))) ∨ (lineIdx n xs p i = -1 ∧ p + sumI xs ≤ n) := by
  intro xs
  induction xs with
  | nil => intro p i hp; right; exact ⟨rfl, by simp only [sumI]; omega⟩
  | cons x xs ih =>
    intro p i hp
    simp only [lineIdx]
    split
    · left; exact ⟨0, by simp, by simp, by simp only [List.take_zero, sumI]; omega, by simp only [List.take_succ_cons, List.take_zero, sumI]; omega⟩
    · rcases ih (p + x) (i + 1) (by omega) with ⟨k, h1, h2, h3, h4⟩ | ⟨h1, h2⟩
      · left
        refine ⟨k + 1, by simpa using h1, by rw [h2]; omega, ?_, ?_⟩
        · simp only [List.take_succ_cons, sumI]; omega
        · simp only [List.take_succ_cons, sumI] at h4 ⊢; omega
      · right; exact ⟨h1, by simp only [sumI]; omega⟩
theorem lineOf_lt (xs : List Int) (n : Int) : lineOf xs n < (xs.length : Int) ∨ xs.length = 0 := by
  unfold lineOf
  split
  · omega
  · rcases lineIdx_spec xs 0 0 (show (0 : Int) ≤ n by omega) with ⟨k, h1, h2, _⟩ | ⟨h1, _⟩ <;> omega
theorem lineOf_in {xs : List Int} (hx : ∀ x ∈ xs, 0 ≤ x) {n : Int} {a m : Nat} (h1 : sumI (xs.take a) ≤ n) (h2 : n < sumI (xs.take (a + m))) : (a : Int) ≤ lineOf xs n ∧ lineOf xs n < a + m := by
  have h0 := sumI_nonneg (xs := xs.take a) fun x h => hx x (List.mem_of_mem_take h)
  unfold lineOf
  rw [if_neg (by omega)]
  rcases lineIdx_spec xs 0 0 (show (0 : Int) ≤ n by omega) with ⟨k, g1, g2, g3, g4⟩ | ⟨g1, g2⟩
  · rw [g2]
    constructor
    · refine Decidable.byContradiction fun hc => ?_
      have := take_le hx (a := k + 1) (b := a) (by omega)
      omega
    · refine Decidable.byContradiction fun hc => ?_
      have := take_le hx (a := a + m) (b := k) (by omega)
      omega
  · have := take_all hx (a := a + m)
    omega

/-- Where a cell's rectangle lies. -/
structure Lies (g : Grid) (xs ys : List Int) (c : Cell) (q : Rect) : Prop where
  x0 : sumI (xs.take c.col.toNat) ≤ q.x
  x1 : q.x + q.w ≤ sumI (xs.take (c.col.toNat + c.manyCols.toNat))
  y0 : sumI (ys.take c.row.toNat) ≤ q.y
  y1 : q.y + q.h ≤ sumI (ys.take (c.row.toNat + c.manyRows.toNat))
  w : 0 ≤ q.w
  h : 0 ≤ q.h
  big : c.w + 2 * c.padX ≤ sumI (slc xs c.col.toNat c.manyCols.toNat) → c.w ≤ q.w
  high : c.h + 2 * c.padY ≤ sumI (slc ys c.row.toNat c.manyRows.toNat) → c.h ≤ q.h

theorem cell_lies {g : Grid} (hg : GOk g) {xs ys : List Int} (hX : XOk g.cols.length xs) (hY : XOk g.rows.length ys) {c : Cell} (hc : c ∈ g.cells) (w h : Int) : Lies g xs ys c (cellRect xs ys ⟨0, 0, w, h⟩ c) := by
  obtain ⟨hb1, hb2⟩ := hg.ok c hc
  have px := hX.part c.col.toNat c.manyCols.toNat
  have py := hY.part c.row.toNat c.manyRows.toNat
  have tx := take_slc (xs := xs) (a := c.col.toNat) (m := c.manyCols.toNat)
  have ty := take_slc (xs := ys) (a := c.row.toNat) (m := c.manyRows.toNat)
  have s6 := inset_bd (r := areaOf xs ys ⟨0, 0, w, h⟩ c) (px := c.padX) (py := c.padY) (by simp only [areaOf]; exact px.2.1) (by simp only [areaOf]; exact py.2.1) (by omega) (by omega)
  simp only [cellRect]
  generalize hq : inset (areaOf xs ys ⟨0, 0, w, h⟩ c) c.padX c.padY = q at *
  simp only [areaOf] at s6
  have b1 := stuck_bd (room := q.w) (size := c.w) (a := bitL c.stick) (b := bitR c.stick) (by omega) (by omega)
  have b2 := stuck_bd (room := q.h) (size := c.h) (a := bitT c.stick) (b := bitB c.stick) (by omega) (by omega)
  constructor <;> simp only [cellIn] <;> omega
theorem Lies.rin {g : Grid} {xs ys : List Int} {c : Cell} {q : Rect} (h : Lies g xs ys c q) (hX : XOk g.cols.length xs) (hY : XOk g.rows.length ys) : RectIn q := by
  have p1 := take_all (xs := xs) (fun x hx => (hX.bd x hx).1) (a := c.col.toNat + c.manyCols.toNat)
  have p2 := take_all (xs := ys) (fun x hx => (hY.bd x hx).1) (a := c.row.toNat + c.manyRows.toNat)
  have q1 := sumI_nonneg (xs := xs.take c.col.toNat) fun x hx => (hX.bd x (List.mem_of_mem_take hx)).1
  have q2 := sumI_nonneg (xs := ys.take c.row.toNat) fun x hx => (hY.bd x (List.mem_of_mem_take hx)).1
  have := h.x0; have := h.x1; have := h.y0; have := h.y1; have := h.w; have := h.h; have := hX.sum; have := hY.sum
  constructor <;> omega
theorem lies_apart {g : Grid} {xs ys : List Int} {a b : Cell} {p q : Rect} (hX : XOk g.cols.length xs) (hY : XOk g.rows.length ys) (hp : Lies g xs ys a p) (hq : Lies g xs ys b q) (ha : 0 ≤ a.col ∧ 0 ≤ a.manyCols ∧ 0 ≤ a.row ∧ 0 ≤ a.manyRows) (hb : 0 ≤ b.col ∧ 0 ≤ b.manyCols ∧ 0 ≤ b.row ∧ 0 ≤ b.manyRows)
    (h : a.col + a.manyCols ≤ b.col ∨ b.col + b.manyCols ≤ a.col ∨ a.row + a.manyRows ≤ b.row ∨ b.row + b.manyRows ≤ a.row) : Apart p q := by
  have h1 : ∀ x ∈ xs, 0 ≤ x := fun x hx => (hX.bd x hx).1
  have h2 : ∀ x ∈ ys, 0 ≤ x := fun x hx => (hY.bd x hx).1
  have a1 := hp.x0; have a2 := hp.x1; have a3 := hp.y0; have a4 := hp.y1
  have b1 := hq.x0; have b2 := hq.x1; have b3 := hq.y0; have b4 := hq.y1
  unfold Apart
  rcases h with h | h | h | h
  · have := take_le h1 (a := a.col.toNat + a.manyCols.toNat) (b := b.col.toNat) (by omega); left; omega
  · have := take_le h1 (a := b.col.toNat + b.manyCols.toNat) (b := a.col.toNat) (by omega); left; omega
  · have := take_le h2 (a := a.row.toNat + a.manyRows.toNat) (b := b.row.toNat) (by omega); right; omega
  · have := take_le h2 (a := b.row.toNat + b.manyRows.toNat) (b := a.row.toNat) (by omega); right; omega

/-- In enough room sizes are enough for each span, and are no more than the room. -/
theorem sized_enough {ls : List Line} {ss : List Span} (h : LOk ls) (hs : SOk ss ls.length) {room : Int} (hr : 0 ≤ room ∧ room ≤ 400) (he : sumI (requests ls ss) ≤ room) {s : Span} (hm : s ∈ ss) :
    s.need ≤ sumI (slc (sizes ls (requests ls ss) room) s.at.toNat s.many.toNat) := by
  have hsd := sizes_ok h (requests_ge h hs) hr
  exact Int.le_trans (requests_enough h hs hm) (hsd.grow he).slc
theorem sized_room {ls : List Line} {ss : List Span} (h : LOk ls) (hs : SOk ss ls.length) {room : Int} (hr : 0 ≤ room ∧ room ≤ 400) (he : sumI (requests ls ss) ≤ room) : sumI (sizes ls (requests ls ss) room) ≤ room := by
  have hsd := sizes_ok h (requests_ge h hs) hr
  by_cases h0 : sumI (weights ls) = 0
  · rw [hsd.none h0]; exact he
  · exact Int.le_of_eq ((hsd.sum h0).2 he)
end Go.Proofs.Ytemihgpcodcjgaa
