import Derived.Test.YtemihgpcodcjgaaR2
import Derived.Test.YtemihgpcodcjgaaG16
set_option linter.unusedSimpArgs false
set_option linter.unusedVariables false
namespace Go.Proofs.Ytemihgpcodcjgaa
open Go.Fw

def colSpan (c : Cell) : Span := ⟨c.col, c.manyCols, c.w + 2 * c.padX⟩
def rowSpan (c : Cell) : Span := ⟨c.row, c.manyRows, c.h + 2 * c.padY⟩
def colSpans (cs : List Cell) : List Span := cs.map colSpan
def rowSpans (cs : List Cell) : List Span := cs.map rowSpan

/-- A grid that is valid, taken apart. -/
structure GOk (g : Grid) : Prop where
  cols : LOk g.cols
  rows : LOk g.rows
  hi : g.cells.length ≤ 8
  ok : ∀ c ∈ g.cells, (0 ≤ c.w ∧ c.w ≤ 30 ∧ 0 ≤ c.h ∧ c.h ≤ 30) ∧ (0 ≤ c.col ∧ c.col ≤ (g.cols.length : Int) - 1 ∧ 1 ≤ c.manyCols ∧ c.manyCols ≤ g.cols.length - c.col ∧ 0 ≤ c.row ∧ c.row ≤ (g.rows.length : Int) - 1 ∧ 1 ≤ c.manyRows ∧ c.manyRows ≤ g.rows.length - c.row ∧ 0 ≤ c.stick ∧ c.stick ≤ 15 ∧ 0 ≤ c.padX ∧ c.padX ≤ 10 ∧ 0 ≤ c.padY ∧ c.padY ≤ 10)
theorem validGrid_iff {g : Grid} (h : validGrid g = true) : GOk g := by
  simp only [validGrid, Bool.and_eq_true, decide_eq_true_eq, List.all_eq_true] at h
  obtain ⟨⟨⟨h1, h2⟩, h3⟩, h4⟩ := h
  refine ⟨linesOk_iff h1, linesOk_iff h2, h3, fun c hc => ?_⟩
  have := h4 c hc
  simp only [cellOk, lies, Bool.and_eq_true, decide_eq_true_eq] at this
  exact this
theorem GOk.cspans {g : Grid} (h : GOk g) : SOk (colSpans g.cells) g.cols.length := by
  refine ⟨by simp [colSpans]; exact h.hi, fun s hs => ?_⟩
  obtain ⟨c, hc, rfl⟩ := List.mem_map.1 hs
  have := h.ok c hc
  simp only [colSpan]; omega
theorem GOk.rspans {g : Grid} (h : GOk g) : SOk (rowSpans g.cells) g.rows.length := by
  refine ⟨by simp [rowSpans]; exact h.hi, fun s hs => ?_⟩
  obtain ⟨c, hc, rfl⟩ := List.mem_map.1 hs
  have := h.ok c hc
  simp only [rowSpan]; omega

def gridReq (g : Grid) : Int × Int := (sumI (requests g.cols (colSpans g.cells)), sumI (requests g.rows (rowSpans g.cells)))
def colSizes (g : Grid) (w : Int) : List Int := sizes g.cols (requests g.cols (colSpans g.cells)) w
def rowSizes (g : Grid) (h : Int) : List Int := sizes g.rows (requests g.rows (rowSpans g.cells)) h
theorem GOk.csz {g : Grid} (h : GOk g) {w : Int} (hw : 0 ≤ w ∧ w ≤ 8000) : Sized g.cols (requests g.cols (colSpans g.cells)) (colSizes g w) w := sizes_ok h.cols (requests_ge h.cols h.cspans) hw
theorem GOk.rsz {g : Grid} (h : GOk g) {w : Int} (hw : 0 ≤ w ∧ w ≤ 8000) : Sized g.rows (requests g.rows (rowSpans g.cells)) (rowSizes g w) w := sizes_ok h.rows (requests_ge h.rows h.rspans) hw

/-- Where something that asks for a size lies in a room. -/
def stuckAt (room size : Int) (first last : Bool) : Int := if first then 0 else if last then room - min size room else (room - min size room).tdiv 2
def stuckLen (room size : Int) (first last : Bool) : Int := if first && last then room else min size room

def bitL (s : Int) : Bool := decide (s.tmod 2 = 1)
def bitR (s : Int) : Bool := decide ((s.tdiv 2).tmod 2 = 1)
def bitT (s : Int) : Bool := decide ((s.tdiv 4).tmod 2 = 1)
def bitB (s : Int) : Bool := decide (s.tdiv 8 = 1)
def areaOf (xs ys : List Int) (r : Rect) (c : Cell) : Rect := ⟨r.x + sumI (xs.take c.col.toNat), r.y + sumI (ys.take c.row.toNat), sumI (slc xs c.col.toNat c.manyCols.toNat), sumI (slc ys c.row.toNat c.manyRows.toNat)⟩
def cellIn (q : Rect) (c : Cell) : Rect := ⟨q.x + stuckAt q.w c.w (bitL c.stick) (bitR c.stick), q.y + stuckAt q.h c.h (bitT c.stick) (bitB c.stick), stuckLen q.w c.w (bitL c.stick) (bitR c.stick), stuckLen q.h c.h (bitT c.stick) (bitB c.stick)⟩
def cellRect (xs ys : List Int) (r : Rect) (c : Cell) : Rect := cellIn (inset (areaOf xs ys r c) c.padX c.padY) c
def gridRectsIn (g : Grid) (r : Rect) : List Rect := g.cells.map (cellRect (colSizes g r.w) (rowSizes g r.h) r)

theorem stuck_bd {room size : Int} {a b : Bool} (hr : 0 ≤ room) (hs : 0 ≤ size) : 0 ≤ stuckAt room size a b ∧ 0 ≤ stuckLen room size a b ∧ stuckAt room size a b + stuckLen room size a b ≤ room ∧ min size room ≤ stuckLen room size a b := by
  have e := tdiv2 (n := room - min size room) (by omega)
  unfold stuckAt stuckLen
  cases a <;> cases b <;> simp <;> omega

end Go.Proofs.Ytemihgpcodcjgaa
