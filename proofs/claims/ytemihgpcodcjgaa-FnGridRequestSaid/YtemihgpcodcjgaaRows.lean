/-
  No cell of these rows narrows 'for every input' (looked for: loops, veiled, ifaces, maps, wideKeys, modest, calm, conditions, laid).
  DERIVED. THE GIVEN ROWS OF THIS SEAT. 14 by the template 'for every input the law returns true; each argument reads behind the call as it read before'; 0 by the template 'total and deterministic' (their statements: YtemihgpcodcjgaaTotals.lean).
  GIVEN WITH THE SEED: the statements are not yours to turn. If you find one false, say at which input.
  Laid BY PROGRAM, IN A SANDBOX (cutbox-rows.mjs): the forced cells as the released guide's own fill.sh prints them over the translation 25c4b38670b89035… (all of the seat's roots in one cut). By AI agents, Wed Nov 11 2026. No macro, syntax, notation, axiom, sorry.
-/
import Derived.Test.YtemihgpcodcjgaaChecked
import GoSem.Claim
import GoSem.ClaimJoined
import GoSem.ClaimMapViews
import Derived.JoinedTies
import Derived.KernelRfl
namespace Go.Proofs.Ytemihgpcodcjgaa
/- THE CELL 'sum', in the pinned program and in every row, IS THE sha256 OF THE DUMP (.gsa) THAT YtemihgpcodcjgaaProg.lean LOADS. Nothing in Lean hashes anything: it is a label: what it is worth is what the hold of that sum in a sandbox is worth. -/
noncomputable def Try.pinned : Pinned := { name := "ytemihgpcodcjgaa", sum := "25c4b38670b8903519be74f0676f9f3ac0c9ea661f91126ccb11a839d9578f6a", checked := Try.checked }
namespace Rows
def none {H : Type} : Left H := { results := [], args := [] }

/-- 'laws.FnExactValidGrid': WHATEVER THE INPUT: true; the input reads as it did. -/
def fnExactValidGridSpec : ChangeSpec := { name := "fnExactValidGrid", fn := fun _ => fun
  | [d] => { results := [.lit (.bool true)], args := [d] }
  | _ => none }
def fnExactValidGridRow : OpenClaim := { program := "ytemihgpcodcjgaa", sum := "25c4b38670b8903519be74f0676f9f3ac0c9ea661f91126ccb11a839d9578f6a", func := "loop.example/widgetroom/laws.FnExactValidGrid", spec := "fnExactValidGrid", unfollowed := true, recurses := true, apart := false }
def FnExactValidGridSaid : Prop := fnExactValidGridRow.holds Try.pinned (OpenSpec.ofChange fnExactValidGridSpec)

/-- ITS FALSE NEIGHBOUR: 'it returns false'. Refute it at one input. -/
def fnExactValidGridWrong : ChangeSpec := { name := "fnExactValidGrid", fn := fun _ => fun
  | [d] => { results := [.lit (.bool false)], args := [d] }
  | _ => none }
def FnExactValidGridWrongFalsely : Prop := fnExactValidGridRow.holds Try.pinned (OpenSpec.ofChange fnExactValidGridWrong)

/-- 'laws.FnLineRequests': WHATEVER THE INPUT: true; the input reads as it did. -/
def fnLineRequestsSpec : ChangeSpec := { name := "fnLineRequests", fn := fun _ => fun
  | [d] => { results := [.lit (.bool true)], args := [d] }
  | _ => none }
def fnLineRequestsRow : OpenClaim := { program := "ytemihgpcodcjgaa", sum := "25c4b38670b8903519be74f0676f9f3ac0c9ea661f91126ccb11a839d9578f6a", func := "loop.example/widgetroom/laws.FnLineRequests", spec := "fnLineRequests", unfollowed := true, recurses := true, apart := false }
def FnLineRequestsSaid : Prop := fnLineRequestsRow.holds Try.pinned (OpenSpec.ofChange fnLineRequestsSpec)

/-- ITS FALSE NEIGHBOUR: 'it returns false'. Refute it at one input. -/
def fnLineRequestsWrong : ChangeSpec := { name := "fnLineRequests", fn := fun _ => fun
  | [d] => { results := [.lit (.bool false)], args := [d] }
  | _ => none }
def FnLineRequestsWrongFalsely : Prop := fnLineRequestsRow.holds Try.pinned (OpenSpec.ofChange fnLineRequestsWrong)

/-- 'laws.FnLineRequestsNone': WHATEVER THE INPUT: true; the input reads as it did. -/
def fnLineRequestsNoneSpec : ChangeSpec := { name := "fnLineRequestsNone", fn := fun _ => fun
  | [d] => { results := [.lit (.bool true)], args := [d] }
  | _ => none }
def fnLineRequestsNoneRow : OpenClaim := { program := "ytemihgpcodcjgaa", sum := "25c4b38670b8903519be74f0676f9f3ac0c9ea661f91126ccb11a839d9578f6a", func := "loop.example/widgetroom/laws.FnLineRequestsNone", spec := "fnLineRequestsNone", unfollowed := true, recurses := true, apart := false }
def FnLineRequestsNoneSaid : Prop := fnLineRequestsNoneRow.holds Try.pinned (OpenSpec.ofChange fnLineRequestsNoneSpec)

/-- ITS FALSE NEIGHBOUR: 'it returns false'. Refute it at one input. -/
def fnLineRequestsNoneWrong : ChangeSpec := { name := "fnLineRequestsNone", fn := fun _ => fun
  | [d] => { results := [.lit (.bool false)], args := [d] }
  | _ => none }
def FnLineRequestsNoneWrongFalsely : Prop := fnLineRequestsNoneRow.holds Try.pinned (OpenSpec.ofChange fnLineRequestsNoneWrong)

/-- 'laws.FnGridRequest': WHATEVER THE INPUT: true; the input reads as it did. -/
def fnGridRequestSpec : ChangeSpec := { name := "fnGridRequest", fn := fun _ => fun
  | [d] => { results := [.lit (.bool true)], args := [d] }
  | _ => none }
def fnGridRequestRow : OpenClaim := { program := "ytemihgpcodcjgaa", sum := "25c4b38670b8903519be74f0676f9f3ac0c9ea661f91126ccb11a839d9578f6a", func := "loop.example/widgetroom/laws.FnGridRequest", spec := "fnGridRequest", unfollowed := true, recurses := true, apart := false }
def FnGridRequestSaid : Prop := fnGridRequestRow.holds Try.pinned (OpenSpec.ofChange fnGridRequestSpec)

/-- ITS FALSE NEIGHBOUR: 'it returns false'. Refute it at one input. -/
def fnGridRequestWrong : ChangeSpec := { name := "fnGridRequest", fn := fun _ => fun
  | [d] => { results := [.lit (.bool false)], args := [d] }
  | _ => none }
def FnGridRequestWrongFalsely : Prop := fnGridRequestRow.holds Try.pinned (OpenSpec.ofChange fnGridRequestWrong)

/-- 'laws.FnExactLineRequests': WHATEVER THE INPUT: true; the input reads as it did. -/
def fnExactLineRequestsSpec : ChangeSpec := { name := "fnExactLineRequests", fn := fun _ => fun
  | [d1, d2] => { results := [.lit (.bool true)], args := [d1, d2] }
  | _ => none }
def fnExactLineRequestsRow : OpenClaim := { program := "ytemihgpcodcjgaa", sum := "25c4b38670b8903519be74f0676f9f3ac0c9ea661f91126ccb11a839d9578f6a", func := "loop.example/widgetroom/laws.FnExactLineRequests", spec := "fnExactLineRequests", unfollowed := true, recurses := true, apart := false }
def FnExactLineRequestsSaid : Prop := fnExactLineRequestsRow.holds Try.pinned (OpenSpec.ofChange fnExactLineRequestsSpec)

/-- ITS FALSE NEIGHBOUR: 'it returns false'. Refute it at one input. -/
def fnExactLineRequestsWrong : ChangeSpec := { name := "fnExactLineRequests", fn := fun _ => fun
  | [d1, d2] => { results := [.lit (.bool false)], args := [d1, d2] }
  | _ => none }
def FnExactLineRequestsWrongFalsely : Prop := fnExactLineRequestsRow.holds Try.pinned (OpenSpec.ofChange fnExactLineRequestsWrong)

/-- 'laws.FnLineSizes': WHATEVER THE INPUT: true; the input reads as it did. -/
def fnLineSizesSpec : ChangeSpec := { name := "fnLineSizes", fn := fun _ => fun
  | [d] => { results := [.lit (.bool true)], args := [d] }
  | _ => none }
def fnLineSizesRow : OpenClaim := { program := "ytemihgpcodcjgaa", sum := "25c4b38670b8903519be74f0676f9f3ac0c9ea661f91126ccb11a839d9578f6a", func := "loop.example/widgetroom/laws.FnLineSizes", spec := "fnLineSizes", unfollowed := true, recurses := true, apart := false }
def FnLineSizesSaid : Prop := fnLineSizesRow.holds Try.pinned (OpenSpec.ofChange fnLineSizesSpec)

/-- ITS FALSE NEIGHBOUR: 'it returns false'. Refute it at one input. -/
def fnLineSizesWrong : ChangeSpec := { name := "fnLineSizes", fn := fun _ => fun
  | [d] => { results := [.lit (.bool false)], args := [d] }
  | _ => none }
def FnLineSizesWrongFalsely : Prop := fnLineSizesRow.holds Try.pinned (OpenSpec.ofChange fnLineSizesWrong)

/-- 'laws.FnLineSizesWish': WHATEVER THE INPUT: true; the input reads as it did. -/
def fnLineSizesWishSpec : ChangeSpec := { name := "fnLineSizesWish", fn := fun _ => fun
  | [d] => { results := [.lit (.bool true)], args := [d] }
  | _ => none }
def fnLineSizesWishRow : OpenClaim := { program := "ytemihgpcodcjgaa", sum := "25c4b38670b8903519be74f0676f9f3ac0c9ea661f91126ccb11a839d9578f6a", func := "loop.example/widgetroom/laws.FnLineSizesWish", spec := "fnLineSizesWish", unfollowed := true, recurses := true, apart := false }
def FnLineSizesWishSaid : Prop := fnLineSizesWishRow.holds Try.pinned (OpenSpec.ofChange fnLineSizesWishSpec)

/-- ITS FALSE NEIGHBOUR: 'it returns false'. Refute it at one input. -/
def fnLineSizesWishWrong : ChangeSpec := { name := "fnLineSizesWish", fn := fun _ => fun
  | [d] => { results := [.lit (.bool false)], args := [d] }
  | _ => none }
def FnLineSizesWishWrongFalsely : Prop := fnLineSizesWishRow.holds Try.pinned (OpenSpec.ofChange fnLineSizesWishWrong)

/-- 'laws.FnExactGridRequest': WHATEVER THE INPUT: true; the input reads as it did. -/
def fnExactGridRequestSpec : ChangeSpec := { name := "fnExactGridRequest", fn := fun _ => fun
  | [d] => { results := [.lit (.bool true)], args := [d] }
  | _ => none }
def fnExactGridRequestRow : OpenClaim := { program := "ytemihgpcodcjgaa", sum := "25c4b38670b8903519be74f0676f9f3ac0c9ea661f91126ccb11a839d9578f6a", func := "loop.example/widgetroom/laws.FnExactGridRequest", spec := "fnExactGridRequest", unfollowed := true, recurses := true, apart := false }
def FnExactGridRequestSaid : Prop := fnExactGridRequestRow.holds Try.pinned (OpenSpec.ofChange fnExactGridRequestSpec)

/-- ITS FALSE NEIGHBOUR: 'it returns false'. Refute it at one input. -/
def fnExactGridRequestWrong : ChangeSpec := { name := "fnExactGridRequest", fn := fun _ => fun
  | [d] => { results := [.lit (.bool false)], args := [d] }
  | _ => none }
def FnExactGridRequestWrongFalsely : Prop := fnExactGridRequestRow.holds Try.pinned (OpenSpec.ofChange fnExactGridRequestWrong)

/-- 'laws.FnExactLineSizes': WHATEVER THE INPUT: true; the input reads as it did. -/
def fnExactLineSizesSpec : ChangeSpec := { name := "fnExactLineSizes", fn := fun _ => fun
  | [d1, d2, d3] => { results := [.lit (.bool true)], args := [d1, d2, d3] }
  | _ => none }
def fnExactLineSizesRow : OpenClaim := { program := "ytemihgpcodcjgaa", sum := "25c4b38670b8903519be74f0676f9f3ac0c9ea661f91126ccb11a839d9578f6a", func := "loop.example/widgetroom/laws.FnExactLineSizes", spec := "fnExactLineSizes", unfollowed := true, recurses := true, apart := false }
def FnExactLineSizesSaid : Prop := fnExactLineSizesRow.holds Try.pinned (OpenSpec.ofChange fnExactLineSizesSpec)

/-- ITS FALSE NEIGHBOUR: 'it returns false'. Refute it at one input. -/
def fnExactLineSizesWrong : ChangeSpec := { name := "fnExactLineSizes", fn := fun _ => fun
  | [d1, d2, d3] => { results := [.lit (.bool false)], args := [d1, d2, d3] }
  | _ => none }
def FnExactLineSizesWrongFalsely : Prop := fnExactLineSizesRow.holds Try.pinned (OpenSpec.ofChange fnExactLineSizesWrong)

/-- 'laws.FnGridAt': WHATEVER THE INPUT: true; the input reads as it did. -/
def fnGridAtSpec : ChangeSpec := { name := "fnGridAt", fn := fun _ => fun
  | [d] => { results := [.lit (.bool true)], args := [d] }
  | _ => none }
def fnGridAtRow : OpenClaim := { program := "ytemihgpcodcjgaa", sum := "25c4b38670b8903519be74f0676f9f3ac0c9ea661f91126ccb11a839d9578f6a", func := "loop.example/widgetroom/laws.FnGridAt", spec := "fnGridAt", unfollowed := true, recurses := true, apart := false }
def FnGridAtSaid : Prop := fnGridAtRow.holds Try.pinned (OpenSpec.ofChange fnGridAtSpec)

/-- ITS FALSE NEIGHBOUR: 'it returns false'. Refute it at one input. -/
def fnGridAtWrong : ChangeSpec := { name := "fnGridAt", fn := fun _ => fun
  | [d] => { results := [.lit (.bool false)], args := [d] }
  | _ => none }
def FnGridAtWrongFalsely : Prop := fnGridAtRow.holds Try.pinned (OpenSpec.ofChange fnGridAtWrong)

/-- 'laws.FnExactGridAt': WHATEVER THE INPUT: true; the input reads as it did. -/
def fnExactGridAtSpec : ChangeSpec := { name := "fnExactGridAt", fn := fun _ => fun
  | [d1, d2, d3, d4, d5] => { results := [.lit (.bool true)], args := [d1, d2, d3, d4, d5] }
  | _ => none }
def fnExactGridAtRow : OpenClaim := { program := "ytemihgpcodcjgaa", sum := "25c4b38670b8903519be74f0676f9f3ac0c9ea661f91126ccb11a839d9578f6a", func := "loop.example/widgetroom/laws.FnExactGridAt", spec := "fnExactGridAt", unfollowed := true, recurses := true, apart := false }
def FnExactGridAtSaid : Prop := fnExactGridAtRow.holds Try.pinned (OpenSpec.ofChange fnExactGridAtSpec)

/-- ITS FALSE NEIGHBOUR: 'it returns false'. Refute it at one input. -/
def fnExactGridAtWrong : ChangeSpec := { name := "fnExactGridAt", fn := fun _ => fun
  | [d1, d2, d3, d4, d5] => { results := [.lit (.bool false)], args := [d1, d2, d3, d4, d5] }
  | _ => none }
def FnExactGridAtWrongFalsely : Prop := fnExactGridAtRow.holds Try.pinned (OpenSpec.ofChange fnExactGridAtWrong)

/-- 'laws.FnGridRects': WHATEVER THE INPUT: true; the input reads as it did. -/
def fnGridRectsSpec : ChangeSpec := { name := "fnGridRects", fn := fun _ => fun
  | [d] => { results := [.lit (.bool true)], args := [d] }
  | _ => none }
def fnGridRectsRow : OpenClaim := { program := "ytemihgpcodcjgaa", sum := "25c4b38670b8903519be74f0676f9f3ac0c9ea661f91126ccb11a839d9578f6a", func := "loop.example/widgetroom/laws.FnGridRects", spec := "fnGridRects", unfollowed := true, recurses := true, apart := false }
def FnGridRectsSaid : Prop := fnGridRectsRow.holds Try.pinned (OpenSpec.ofChange fnGridRectsSpec)

/-- ITS FALSE NEIGHBOUR: 'it returns false'. Refute it at one input. -/
def fnGridRectsWrong : ChangeSpec := { name := "fnGridRects", fn := fun _ => fun
  | [d] => { results := [.lit (.bool false)], args := [d] }
  | _ => none }
def FnGridRectsWrongFalsely : Prop := fnGridRectsRow.holds Try.pinned (OpenSpec.ofChange fnGridRectsWrong)

/-- 'laws.FnGridRectsApart': WHATEVER THE INPUT: true; the input reads as it did. -/
def fnGridRectsApartSpec : ChangeSpec := { name := "fnGridRectsApart", fn := fun _ => fun
  | [d] => { results := [.lit (.bool true)], args := [d] }
  | _ => none }
def fnGridRectsApartRow : OpenClaim := { program := "ytemihgpcodcjgaa", sum := "25c4b38670b8903519be74f0676f9f3ac0c9ea661f91126ccb11a839d9578f6a", func := "loop.example/widgetroom/laws.FnGridRectsApart", spec := "fnGridRectsApart", unfollowed := true, recurses := true, apart := false }
def FnGridRectsApartSaid : Prop := fnGridRectsApartRow.holds Try.pinned (OpenSpec.ofChange fnGridRectsApartSpec)

/-- ITS FALSE NEIGHBOUR: 'it returns false'. Refute it at one input. -/
def fnGridRectsApartWrong : ChangeSpec := { name := "fnGridRectsApart", fn := fun _ => fun
  | [d] => { results := [.lit (.bool false)], args := [d] }
  | _ => none }
def FnGridRectsApartWrongFalsely : Prop := fnGridRectsApartRow.holds Try.pinned (OpenSpec.ofChange fnGridRectsApartWrong)

/-- 'laws.FnExactGridRects': WHATEVER THE INPUT: true; the input reads as it did. -/
def fnExactGridRectsSpec : ChangeSpec := { name := "fnExactGridRects", fn := fun _ => fun
  | [d1, d2, d3] => { results := [.lit (.bool true)], args := [d1, d2, d3] }
  | _ => none }
def fnExactGridRectsRow : OpenClaim := { program := "ytemihgpcodcjgaa", sum := "25c4b38670b8903519be74f0676f9f3ac0c9ea661f91126ccb11a839d9578f6a", func := "loop.example/widgetroom/laws.FnExactGridRects", spec := "fnExactGridRects", unfollowed := true, recurses := true, apart := false }
def FnExactGridRectsSaid : Prop := fnExactGridRectsRow.holds Try.pinned (OpenSpec.ofChange fnExactGridRectsSpec)

/-- ITS FALSE NEIGHBOUR: 'it returns false'. Refute it at one input. -/
def fnExactGridRectsWrong : ChangeSpec := { name := "fnExactGridRects", fn := fun _ => fun
  | [d1, d2, d3] => { results := [.lit (.bool false)], args := [d1, d2, d3] }
  | _ => none }
def FnExactGridRectsWrongFalsely : Prop := fnExactGridRectsRow.holds Try.pinned (OpenSpec.ofChange fnExactGridRectsWrong)

/- THE SECOND FORM. 'bulk': how many values and letters a reading holds, each counted each time it is reached (what is shared counts as often as it is met; a slice's spare places count too). A statement '..UptoSaid' is the law's where the arguments, and the package variables that the reading takes, are together of bulk at most 1048576: NARROWER than '..Said'. Prove '..Said' where nothing that the law and all that it calls make is longer than what came in: it says more and counts as full. Else prove '..UptoSaid'. A law counts once. -/
mutual
def uptoBulk {H : Type} : DataW H → Nat
  | .lit (.string bytes) => bytes.length + 1
  | .lit _ => 1
  | .nil => 1
  | .ptr d => uptoBulk d + 1
  | .slice elems spare => uptoBulkAll elems + uptoBulkAll spare + 1
  | .agg parts => uptoBulkAll parts + 1
  | .iface _ d => uptoBulk d + 1
  | .map entries => uptoBulkEntries entries + 1
  | .held _ => 1
def uptoBulkAll {H : Type} : List (DataW H) → Nat
  | [] => 0
  | d :: r => uptoBulk d + uptoBulkAll r
def uptoBulkEntries {H : Type} : List (Lit × DataW H) → Nat
  | [] => 0
  | x :: r => uptoBulkEntry x + uptoBulkEntries r
def uptoBulkEntry {H : Type} : Lit × DataW H → Nat
  | (.string bytes, d) => bytes.length + uptoBulk d + 1
  | (_, d) => uptoBulk d + 1
 end
def uptoSmall : (H : Type) → List (DataW H) → Bool := fun _ ds => decide (uptoBulkAll ds ≤ 1048576)
def OpenSpec.upto (s : _root_.Go.ChangeSpec) : _root_.Go.OpenSpec := { _root_.Go.OpenSpec.ofChange s with cond := some uptoSmall }

/-- 'laws.FnExactValidGrid', WHERE WHAT IT READS IS OF BULK AT MOST 1048576: true; the input reads as it did. -/
def fnExactValidGridUptoRow : OpenClaim := { program := "ytemihgpcodcjgaa", sum := "25c4b38670b8903519be74f0676f9f3ac0c9ea661f91126ccb11a839d9578f6a", func := "loop.example/widgetroom/laws.FnExactValidGrid", spec := "fnExactValidGrid", unfollowed := true, recurses := true, apart := false, narrowed := true }
def FnExactValidGridUptoSaid : Prop := fnExactValidGridUptoRow.holds Try.pinned (OpenSpec.upto fnExactValidGridSpec)

/-- 'laws.FnLineRequests', WHERE WHAT IT READS IS OF BULK AT MOST 1048576: true; the input reads as it did. -/
def fnLineRequestsUptoRow : OpenClaim := { program := "ytemihgpcodcjgaa", sum := "25c4b38670b8903519be74f0676f9f3ac0c9ea661f91126ccb11a839d9578f6a", func := "loop.example/widgetroom/laws.FnLineRequests", spec := "fnLineRequests", unfollowed := true, recurses := true, apart := false, narrowed := true }
def FnLineRequestsUptoSaid : Prop := fnLineRequestsUptoRow.holds Try.pinned (OpenSpec.upto fnLineRequestsSpec)

/-- 'laws.FnLineRequestsNone', WHERE WHAT IT READS IS OF BULK AT MOST 1048576: true; the input reads as it did. -/
def fnLineRequestsNoneUptoRow : OpenClaim := { program := "ytemihgpcodcjgaa", sum := "25c4b38670b8903519be74f0676f9f3ac0c9ea661f91126ccb11a839d9578f6a", func := "loop.example/widgetroom/laws.FnLineRequestsNone", spec := "fnLineRequestsNone", unfollowed := true, recurses := true, apart := false, narrowed := true }
def FnLineRequestsNoneUptoSaid : Prop := fnLineRequestsNoneUptoRow.holds Try.pinned (OpenSpec.upto fnLineRequestsNoneSpec)

/-- 'laws.FnGridRequest', WHERE WHAT IT READS IS OF BULK AT MOST 1048576: true; the input reads as it did. -/
def fnGridRequestUptoRow : OpenClaim := { program := "ytemihgpcodcjgaa", sum := "25c4b38670b8903519be74f0676f9f3ac0c9ea661f91126ccb11a839d9578f6a", func := "loop.example/widgetroom/laws.FnGridRequest", spec := "fnGridRequest", unfollowed := true, recurses := true, apart := false, narrowed := true }
def FnGridRequestUptoSaid : Prop := fnGridRequestUptoRow.holds Try.pinned (OpenSpec.upto fnGridRequestSpec)

/-- 'laws.FnExactLineRequests', WHERE WHAT IT READS IS OF BULK AT MOST 1048576: true; the input reads as it did. -/
def fnExactLineRequestsUptoRow : OpenClaim := { program := "ytemihgpcodcjgaa", sum := "25c4b38670b8903519be74f0676f9f3ac0c9ea661f91126ccb11a839d9578f6a", func := "loop.example/widgetroom/laws.FnExactLineRequests", spec := "fnExactLineRequests", unfollowed := true, recurses := true, apart := false, narrowed := true }
def FnExactLineRequestsUptoSaid : Prop := fnExactLineRequestsUptoRow.holds Try.pinned (OpenSpec.upto fnExactLineRequestsSpec)

/-- 'laws.FnLineSizes', WHERE WHAT IT READS IS OF BULK AT MOST 1048576: true; the input reads as it did. -/
def fnLineSizesUptoRow : OpenClaim := { program := "ytemihgpcodcjgaa", sum := "25c4b38670b8903519be74f0676f9f3ac0c9ea661f91126ccb11a839d9578f6a", func := "loop.example/widgetroom/laws.FnLineSizes", spec := "fnLineSizes", unfollowed := true, recurses := true, apart := false, narrowed := true }
def FnLineSizesUptoSaid : Prop := fnLineSizesUptoRow.holds Try.pinned (OpenSpec.upto fnLineSizesSpec)

/-- 'laws.FnLineSizesWish', WHERE WHAT IT READS IS OF BULK AT MOST 1048576: true; the input reads as it did. -/
def fnLineSizesWishUptoRow : OpenClaim := { program := "ytemihgpcodcjgaa", sum := "25c4b38670b8903519be74f0676f9f3ac0c9ea661f91126ccb11a839d9578f6a", func := "loop.example/widgetroom/laws.FnLineSizesWish", spec := "fnLineSizesWish", unfollowed := true, recurses := true, apart := false, narrowed := true }
def FnLineSizesWishUptoSaid : Prop := fnLineSizesWishUptoRow.holds Try.pinned (OpenSpec.upto fnLineSizesWishSpec)

/-- 'laws.FnExactGridRequest', WHERE WHAT IT READS IS OF BULK AT MOST 1048576: true; the input reads as it did. -/
def fnExactGridRequestUptoRow : OpenClaim := { program := "ytemihgpcodcjgaa", sum := "25c4b38670b8903519be74f0676f9f3ac0c9ea661f91126ccb11a839d9578f6a", func := "loop.example/widgetroom/laws.FnExactGridRequest", spec := "fnExactGridRequest", unfollowed := true, recurses := true, apart := false, narrowed := true }
def FnExactGridRequestUptoSaid : Prop := fnExactGridRequestUptoRow.holds Try.pinned (OpenSpec.upto fnExactGridRequestSpec)

/-- 'laws.FnExactLineSizes', WHERE WHAT IT READS IS OF BULK AT MOST 1048576: true; the input reads as it did. -/
def fnExactLineSizesUptoRow : OpenClaim := { program := "ytemihgpcodcjgaa", sum := "25c4b38670b8903519be74f0676f9f3ac0c9ea661f91126ccb11a839d9578f6a", func := "loop.example/widgetroom/laws.FnExactLineSizes", spec := "fnExactLineSizes", unfollowed := true, recurses := true, apart := false, narrowed := true }
def FnExactLineSizesUptoSaid : Prop := fnExactLineSizesUptoRow.holds Try.pinned (OpenSpec.upto fnExactLineSizesSpec)

/-- 'laws.FnGridAt', WHERE WHAT IT READS IS OF BULK AT MOST 1048576: true; the input reads as it did. -/
def fnGridAtUptoRow : OpenClaim := { program := "ytemihgpcodcjgaa", sum := "25c4b38670b8903519be74f0676f9f3ac0c9ea661f91126ccb11a839d9578f6a", func := "loop.example/widgetroom/laws.FnGridAt", spec := "fnGridAt", unfollowed := true, recurses := true, apart := false, narrowed := true }
def FnGridAtUptoSaid : Prop := fnGridAtUptoRow.holds Try.pinned (OpenSpec.upto fnGridAtSpec)

/-- 'laws.FnExactGridAt', WHERE WHAT IT READS IS OF BULK AT MOST 1048576: true; the input reads as it did. -/
def fnExactGridAtUptoRow : OpenClaim := { program := "ytemihgpcodcjgaa", sum := "25c4b38670b8903519be74f0676f9f3ac0c9ea661f91126ccb11a839d9578f6a", func := "loop.example/widgetroom/laws.FnExactGridAt", spec := "fnExactGridAt", unfollowed := true, recurses := true, apart := false, narrowed := true }
def FnExactGridAtUptoSaid : Prop := fnExactGridAtUptoRow.holds Try.pinned (OpenSpec.upto fnExactGridAtSpec)

/-- 'laws.FnGridRects', WHERE WHAT IT READS IS OF BULK AT MOST 1048576: true; the input reads as it did. -/
def fnGridRectsUptoRow : OpenClaim := { program := "ytemihgpcodcjgaa", sum := "25c4b38670b8903519be74f0676f9f3ac0c9ea661f91126ccb11a839d9578f6a", func := "loop.example/widgetroom/laws.FnGridRects", spec := "fnGridRects", unfollowed := true, recurses := true, apart := false, narrowed := true }
def FnGridRectsUptoSaid : Prop := fnGridRectsUptoRow.holds Try.pinned (OpenSpec.upto fnGridRectsSpec)

/-- 'laws.FnGridRectsApart', WHERE WHAT IT READS IS OF BULK AT MOST 1048576: true; the input reads as it did. -/
def fnGridRectsApartUptoRow : OpenClaim := { program := "ytemihgpcodcjgaa", sum := "25c4b38670b8903519be74f0676f9f3ac0c9ea661f91126ccb11a839d9578f6a", func := "loop.example/widgetroom/laws.FnGridRectsApart", spec := "fnGridRectsApart", unfollowed := true, recurses := true, apart := false, narrowed := true }
def FnGridRectsApartUptoSaid : Prop := fnGridRectsApartUptoRow.holds Try.pinned (OpenSpec.upto fnGridRectsApartSpec)

/-- 'laws.FnExactGridRects', WHERE WHAT IT READS IS OF BULK AT MOST 1048576: true; the input reads as it did. -/
def fnExactGridRectsUptoRow : OpenClaim := { program := "ytemihgpcodcjgaa", sum := "25c4b38670b8903519be74f0676f9f3ac0c9ea661f91126ccb11a839d9578f6a", func := "loop.example/widgetroom/laws.FnExactGridRects", spec := "fnExactGridRects", unfollowed := true, recurses := true, apart := false, narrowed := true }
def FnExactGridRectsUptoSaid : Prop := fnExactGridRectsUptoRow.holds Try.pinned (OpenSpec.upto fnExactGridRectsSpec)

end Rows
end Go.Proofs.Ytemihgpcodcjgaa
