/-
  No cell of these rows narrows 'for every input' (looked for: loops, veiled, ifaces, maps, wideKeys, modest, calm, conditions, laid).
  DERIVED. THE GIVEN ROWS OF THIS SEAT. 9 by the template 'for every input the law returns true; each argument reads behind the call as it read before'; 0 by the template 'total and deterministic' (their statements: YtpfhnhhkfobjnaaGreatTotals.lean).
  GIVEN WITH THE SEED: the statements are not yours to turn. If you find one false, say at which input.
  Laid BY PROGRAM, IN A SANDBOX (cutbox-rows.mjs): the forced cells as the released guide's own fill.sh prints them over the translation 7305b0205e29349a… (all of the seat's roots in one cut). By AI agents, Wed Nov 11 2026. No macro, syntax, notation, axiom, sorry.
-/
import Derived.Test.YtpfhnhhkfobjnaaGreatChecked
import GoSem.Claim
import GoSem.ClaimJoined
import GoSem.ClaimMapViews
import Derived.JoinedTies
import Derived.KernelRfl
namespace Go.Proofs.YtpfhnhhkfobjnaaGreat
/- THE CELL 'sum', in the pinned program and in every row, IS THE sha256 OF THE DUMP (.gsa) THAT YtpfhnhhkfobjnaaGreatProg.lean LOADS. Nothing in Lean hashes anything: it is a label: what it is worth is what the hold of that sum in a sandbox is worth. -/
noncomputable def Tryz.pinned : Pinned := { name := "ytpfhnhhkfobjnaagreat", sum := "7305b0205e29349afa17e86f96135ae13d15f82ec62e3358537f01cc0eb980b9", checked := Tryz.checked }
namespace Rows
def none {H : Type} : Left H := { results := [], args := [] }

/-- 'laws.FnExactMovedBy': WHATEVER THE INPUT: true; the input reads as it did. -/
def fnExactMovedBySpec : ChangeSpec := { name := "fnExactMovedBy", fn := fun _ => fun
  | [d1, d2, d3, d4, d5, d6] => { results := [.lit (.bool true)], args := [d1, d2, d3, d4, d5, d6] }
  | _ => none }
def fnExactMovedByRow : OpenClaim := { program := "ytpfhnhhkfobjnaagreat", sum := "7305b0205e29349afa17e86f96135ae13d15f82ec62e3358537f01cc0eb980b9", func := "loop.example/widgetroom/laws.FnExactMovedBy", spec := "fnExactMovedBy", unfollowed := true, recurses := true, apart := false }
def FnExactMovedBySaid : Prop := fnExactMovedByRow.holds Tryz.pinned (OpenSpec.ofChange fnExactMovedBySpec)

/-- ITS FALSE NEIGHBOUR: 'it returns false'. Refute it at one input. -/
def fnExactMovedByWrong : ChangeSpec := { name := "fnExactMovedBy", fn := fun _ => fun
  | [d1, d2, d3, d4, d5, d6] => { results := [.lit (.bool false)], args := [d1, d2, d3, d4, d5, d6] }
  | _ => none }
def FnExactMovedByWrongFalsely : Prop := fnExactMovedByRow.holds Tryz.pinned (OpenSpec.ofChange fnExactMovedByWrong)

/-- 'laws.FnExactHitNode': WHATEVER THE INPUT: true; the input reads as it did. -/
def fnExactHitNodeSpec : ChangeSpec := { name := "fnExactHitNode", fn := fun _ => fun
  | [d1, d2, d3, d4, d5] => { results := [.lit (.bool true)], args := [d1, d2, d3, d4, d5] }
  | _ => none }
def fnExactHitNodeRow : OpenClaim := { program := "ytpfhnhhkfobjnaagreat", sum := "7305b0205e29349afa17e86f96135ae13d15f82ec62e3358537f01cc0eb980b9", func := "loop.example/widgetroom/laws.FnExactHitNode", spec := "fnExactHitNode", unfollowed := true, recurses := true, apart := false }
def FnExactHitNodeSaid : Prop := fnExactHitNodeRow.holds Tryz.pinned (OpenSpec.ofChange fnExactHitNodeSpec)

/-- ITS FALSE NEIGHBOUR: 'it returns false'. Refute it at one input. -/
def fnExactHitNodeWrong : ChangeSpec := { name := "fnExactHitNode", fn := fun _ => fun
  | [d1, d2, d3, d4, d5] => { results := [.lit (.bool false)], args := [d1, d2, d3, d4, d5] }
  | _ => none }
def FnExactHitNodeWrongFalsely : Prop := fnExactHitNodeRow.holds Tryz.pinned (OpenSpec.ofChange fnExactHitNodeWrong)

/-- 'laws.FnExactSeenPart': WHATEVER THE INPUT: true; the input reads as it did. -/
def fnExactSeenPartSpec : ChangeSpec := { name := "fnExactSeenPart", fn := fun _ => fun
  | [d1, d2, d3, d4] => { results := [.lit (.bool true)], args := [d1, d2, d3, d4] }
  | _ => none }
def fnExactSeenPartRow : OpenClaim := { program := "ytpfhnhhkfobjnaagreat", sum := "7305b0205e29349afa17e86f96135ae13d15f82ec62e3358537f01cc0eb980b9", func := "loop.example/widgetroom/laws.FnExactSeenPart", spec := "fnExactSeenPart", unfollowed := true, recurses := true, apart := false }
def FnExactSeenPartSaid : Prop := fnExactSeenPartRow.holds Tryz.pinned (OpenSpec.ofChange fnExactSeenPartSpec)

/-- ITS FALSE NEIGHBOUR: 'it returns false'. Refute it at one input. -/
def fnExactSeenPartWrong : ChangeSpec := { name := "fnExactSeenPart", fn := fun _ => fun
  | [d1, d2, d3, d4] => { results := [.lit (.bool false)], args := [d1, d2, d3, d4] }
  | _ => none }
def FnExactSeenPartWrongFalsely : Prop := fnExactSeenPartRow.holds Tryz.pinned (OpenSpec.ofChange fnExactSeenPartWrong)

/-- 'laws.FnExactClippedNodes': WHATEVER THE INPUT: true; the input reads as it did. -/
def fnExactClippedNodesSpec : ChangeSpec := { name := "fnExactClippedNodes", fn := fun _ => fun
  | [d1, d2, d3] => { results := [.lit (.bool true)], args := [d1, d2, d3] }
  | _ => none }
def fnExactClippedNodesRow : OpenClaim := { program := "ytpfhnhhkfobjnaagreat", sum := "7305b0205e29349afa17e86f96135ae13d15f82ec62e3358537f01cc0eb980b9", func := "loop.example/widgetroom/laws.FnExactClippedNodes", spec := "fnExactClippedNodes", unfollowed := true, recurses := true, apart := false }
def FnExactClippedNodesSaid : Prop := fnExactClippedNodesRow.holds Tryz.pinned (OpenSpec.ofChange fnExactClippedNodesSpec)

/-- ITS FALSE NEIGHBOUR: 'it returns false'. Refute it at one input. -/
def fnExactClippedNodesWrong : ChangeSpec := { name := "fnExactClippedNodes", fn := fun _ => fun
  | [d1, d2, d3] => { results := [.lit (.bool false)], args := [d1, d2, d3] }
  | _ => none }
def FnExactClippedNodesWrongFalsely : Prop := fnExactClippedNodesRow.holds Tryz.pinned (OpenSpec.ofChange fnExactClippedNodesWrong)

/-- 'laws.FnExactCutNodes': WHATEVER THE INPUT: true; the input reads as it did. -/
def fnExactCutNodesSpec : ChangeSpec := { name := "fnExactCutNodes", fn := fun _ => fun
  | [d1, d2, d3] => { results := [.lit (.bool true)], args := [d1, d2, d3] }
  | _ => none }
def fnExactCutNodesRow : OpenClaim := { program := "ytpfhnhhkfobjnaagreat", sum := "7305b0205e29349afa17e86f96135ae13d15f82ec62e3358537f01cc0eb980b9", func := "loop.example/widgetroom/laws.FnExactCutNodes", spec := "fnExactCutNodes", unfollowed := true, recurses := true, apart := false }
def FnExactCutNodesSaid : Prop := fnExactCutNodesRow.holds Tryz.pinned (OpenSpec.ofChange fnExactCutNodesSpec)

/-- ITS FALSE NEIGHBOUR: 'it returns false'. Refute it at one input. -/
def fnExactCutNodesWrong : ChangeSpec := { name := "fnExactCutNodes", fn := fun _ => fun
  | [d1, d2, d3] => { results := [.lit (.bool false)], args := [d1, d2, d3] }
  | _ => none }
def FnExactCutNodesWrongFalsely : Prop := fnExactCutNodesRow.holds Tryz.pinned (OpenSpec.ofChange fnExactCutNodesWrong)

/-- 'laws.FnExactLayoutTree': WHATEVER THE INPUT: true; the input reads as it did. -/
def fnExactLayoutTreeSpec : ChangeSpec := { name := "fnExactLayoutTree", fn := fun _ => fun
  | [d1, d2, d3] => { results := [.lit (.bool true)], args := [d1, d2, d3] }
  | _ => none }
def fnExactLayoutTreeRow : OpenClaim := { program := "ytpfhnhhkfobjnaagreat", sum := "7305b0205e29349afa17e86f96135ae13d15f82ec62e3358537f01cc0eb980b9", func := "loop.example/widgetroom/laws.FnExactLayoutTree", spec := "fnExactLayoutTree", unfollowed := true, recurses := true, apart := false }
def FnExactLayoutTreeSaid : Prop := fnExactLayoutTreeRow.holds Tryz.pinned (OpenSpec.ofChange fnExactLayoutTreeSpec)

/-- ITS FALSE NEIGHBOUR: 'it returns false'. Refute it at one input. -/
def fnExactLayoutTreeWrong : ChangeSpec := { name := "fnExactLayoutTree", fn := fun _ => fun
  | [d1, d2, d3] => { results := [.lit (.bool false)], args := [d1, d2, d3] }
  | _ => none }
def FnExactLayoutTreeWrongFalsely : Prop := fnExactLayoutTreeRow.holds Tryz.pinned (OpenSpec.ofChange fnExactLayoutTreeWrong)

/-- 'laws.FnExactNaturalLayout': WHATEVER THE INPUT: true; the input reads as it did. -/
def fnExactNaturalLayoutSpec : ChangeSpec := { name := "fnExactNaturalLayout", fn := fun _ => fun
  | [d] => { results := [.lit (.bool true)], args := [d] }
  | _ => none }
def fnExactNaturalLayoutRow : OpenClaim := { program := "ytpfhnhhkfobjnaagreat", sum := "7305b0205e29349afa17e86f96135ae13d15f82ec62e3358537f01cc0eb980b9", func := "loop.example/widgetroom/laws.FnExactNaturalLayout", spec := "fnExactNaturalLayout", unfollowed := true, recurses := true, apart := false }
def FnExactNaturalLayoutSaid : Prop := fnExactNaturalLayoutRow.holds Tryz.pinned (OpenSpec.ofChange fnExactNaturalLayoutSpec)

/-- ITS FALSE NEIGHBOUR: 'it returns false'. Refute it at one input. -/
def fnExactNaturalLayoutWrong : ChangeSpec := { name := "fnExactNaturalLayout", fn := fun _ => fun
  | [d] => { results := [.lit (.bool false)], args := [d] }
  | _ => none }
def FnExactNaturalLayoutWrongFalsely : Prop := fnExactNaturalLayoutRow.holds Tryz.pinned (OpenSpec.ofChange fnExactNaturalLayoutWrong)

/-- 'laws.FnExactOverlapsIn': WHATEVER THE INPUT: true; the input reads as it did. -/
def fnExactOverlapsInSpec : ChangeSpec := { name := "fnExactOverlapsIn", fn := fun _ => fun
  | [d1, d2, d3, d4] => { results := [.lit (.bool true)], args := [d1, d2, d3, d4] }
  | _ => none }
def fnExactOverlapsInRow : OpenClaim := { program := "ytpfhnhhkfobjnaagreat", sum := "7305b0205e29349afa17e86f96135ae13d15f82ec62e3358537f01cc0eb980b9", func := "loop.example/widgetroom/laws.FnExactOverlapsIn", spec := "fnExactOverlapsIn", unfollowed := true, recurses := true, apart := false }
def FnExactOverlapsInSaid : Prop := fnExactOverlapsInRow.holds Tryz.pinned (OpenSpec.ofChange fnExactOverlapsInSpec)

/-- ITS FALSE NEIGHBOUR: 'it returns false'. Refute it at one input. -/
def fnExactOverlapsInWrong : ChangeSpec := { name := "fnExactOverlapsIn", fn := fun _ => fun
  | [d1, d2, d3, d4] => { results := [.lit (.bool false)], args := [d1, d2, d3, d4] }
  | _ => none }
def FnExactOverlapsInWrongFalsely : Prop := fnExactOverlapsInRow.holds Tryz.pinned (OpenSpec.ofChange fnExactOverlapsInWrong)

/-- 'laws.FnExactHiddenNodes': WHATEVER THE INPUT: true; the input reads as it did. -/
def fnExactHiddenNodesSpec : ChangeSpec := { name := "fnExactHiddenNodes", fn := fun _ => fun
  | [d1, d2, d3] => { results := [.lit (.bool true)], args := [d1, d2, d3] }
  | _ => none }
def fnExactHiddenNodesRow : OpenClaim := { program := "ytpfhnhhkfobjnaagreat", sum := "7305b0205e29349afa17e86f96135ae13d15f82ec62e3358537f01cc0eb980b9", func := "loop.example/widgetroom/laws.FnExactHiddenNodes", spec := "fnExactHiddenNodes", unfollowed := true, recurses := true, apart := false }
def FnExactHiddenNodesSaid : Prop := fnExactHiddenNodesRow.holds Tryz.pinned (OpenSpec.ofChange fnExactHiddenNodesSpec)

/-- ITS FALSE NEIGHBOUR: 'it returns false'. Refute it at one input. -/
def fnExactHiddenNodesWrong : ChangeSpec := { name := "fnExactHiddenNodes", fn := fun _ => fun
  | [d1, d2, d3] => { results := [.lit (.bool false)], args := [d1, d2, d3] }
  | _ => none }
def FnExactHiddenNodesWrongFalsely : Prop := fnExactHiddenNodesRow.holds Tryz.pinned (OpenSpec.ofChange fnExactHiddenNodesWrong)

/- THE SECOND FORM. 'bulk': how many values and letters a reading holds, each counted each time it is reached (what is shared counts as often as it is met; a slice's spare places count too). A statement '..UptoSaid' is the law's where the arguments, and the package variables that the reading takes, are together of bulk at most 1048576: NARROWER than '..Said'. Prove '..Said' where nothing that the law and all that it calls make is longer than what came in: it says more and counts as full. Else prove '..UptoSaid'. A law counts once. -/
mutual
def uptoBulk {H : Type} : DataW H → Nat
  | .lit (.string bytes) => bytes.length + 1
  | .lit _ => 1
  | .nil => 1
  | .ptr d => uptoBulk d + 1
  | .slice elems spare => uptoBulkAll elems + uptoBulkAll spare + 1
  | .agg parts => uptoBulkAll parts + 1
  | .iface _ d => uptoBulk d + 1
  | .map entries => uptoBulkEntries entries + 1
  | .held _ => 1
def uptoBulkAll {H : Type} : List (DataW H) → Nat
  | [] => 0
  | d :: r => uptoBulk d + uptoBulkAll r
def uptoBulkEntries {H : Type} : List (Lit × DataW H) → Nat
  | [] => 0
  | x :: r => uptoBulkEntry x + uptoBulkEntries r
def uptoBulkEntry {H : Type} : Lit × DataW H → Nat
  | (.string bytes, d) => bytes.length + uptoBulk d + 1
  | (_, d) => uptoBulk d + 1
 end
def uptoSmall : (H : Type) → List (DataW H) → Bool := fun _ ds => decide (uptoBulkAll ds ≤ 1048576)
def OpenSpec.upto (s : _root_.Go.ChangeSpec) : _root_.Go.OpenSpec := { _root_.Go.OpenSpec.ofChange s with cond := some uptoSmall }

/-- 'laws.FnExactMovedBy', WHERE WHAT IT READS IS OF BULK AT MOST 1048576: true; the input reads as it did. -/
def fnExactMovedByUptoRow : OpenClaim := { program := "ytpfhnhhkfobjnaagreat", sum := "7305b0205e29349afa17e86f96135ae13d15f82ec62e3358537f01cc0eb980b9", func := "loop.example/widgetroom/laws.FnExactMovedBy", spec := "fnExactMovedBy", unfollowed := true, recurses := true, apart := false, narrowed := true }
def FnExactMovedByUptoSaid : Prop := fnExactMovedByUptoRow.holds Tryz.pinned (OpenSpec.upto fnExactMovedBySpec)

/-- 'laws.FnExactHitNode', WHERE WHAT IT READS IS OF BULK AT MOST 1048576: true; the input reads as it did. -/
def fnExactHitNodeUptoRow : OpenClaim := { program := "ytpfhnhhkfobjnaagreat", sum := "7305b0205e29349afa17e86f96135ae13d15f82ec62e3358537f01cc0eb980b9", func := "loop.example/widgetroom/laws.FnExactHitNode", spec := "fnExactHitNode", unfollowed := true, recurses := true, apart := false, narrowed := true }
def FnExactHitNodeUptoSaid : Prop := fnExactHitNodeUptoRow.holds Tryz.pinned (OpenSpec.upto fnExactHitNodeSpec)

/-- 'laws.FnExactSeenPart', WHERE WHAT IT READS IS OF BULK AT MOST 1048576: true; the input reads as it did. -/
def fnExactSeenPartUptoRow : OpenClaim := { program := "ytpfhnhhkfobjnaagreat", sum := "7305b0205e29349afa17e86f96135ae13d15f82ec62e3358537f01cc0eb980b9", func := "loop.example/widgetroom/laws.FnExactSeenPart", spec := "fnExactSeenPart", unfollowed := true, recurses := true, apart := false, narrowed := true }
def FnExactSeenPartUptoSaid : Prop := fnExactSeenPartUptoRow.holds Tryz.pinned (OpenSpec.upto fnExactSeenPartSpec)

/-- 'laws.FnExactClippedNodes', WHERE WHAT IT READS IS OF BULK AT MOST 1048576: true; the input reads as it did. -/
def fnExactClippedNodesUptoRow : OpenClaim := { program := "ytpfhnhhkfobjnaagreat", sum := "7305b0205e29349afa17e86f96135ae13d15f82ec62e3358537f01cc0eb980b9", func := "loop.example/widgetroom/laws.FnExactClippedNodes", spec := "fnExactClippedNodes", unfollowed := true, recurses := true, apart := false, narrowed := true }
def FnExactClippedNodesUptoSaid : Prop := fnExactClippedNodesUptoRow.holds Tryz.pinned (OpenSpec.upto fnExactClippedNodesSpec)

/-- 'laws.FnExactCutNodes', WHERE WHAT IT READS IS OF BULK AT MOST 1048576: true; the input reads as it did. -/
def fnExactCutNodesUptoRow : OpenClaim := { program := "ytpfhnhhkfobjnaagreat", sum := "7305b0205e29349afa17e86f96135ae13d15f82ec62e3358537f01cc0eb980b9", func := "loop.example/widgetroom/laws.FnExactCutNodes", spec := "fnExactCutNodes", unfollowed := true, recurses := true, apart := false, narrowed := true }
def FnExactCutNodesUptoSaid : Prop := fnExactCutNodesUptoRow.holds Tryz.pinned (OpenSpec.upto fnExactCutNodesSpec)

/-- 'laws.FnExactLayoutTree', WHERE WHAT IT READS IS OF BULK AT MOST 1048576: true; the input reads as it did. -/
def fnExactLayoutTreeUptoRow : OpenClaim := { program := "ytpfhnhhkfobjnaagreat", sum := "7305b0205e29349afa17e86f96135ae13d15f82ec62e3358537f01cc0eb980b9", func := "loop.example/widgetroom/laws.FnExactLayoutTree", spec := "fnExactLayoutTree", unfollowed := true, recurses := true, apart := false, narrowed := true }
def FnExactLayoutTreeUptoSaid : Prop := fnExactLayoutTreeUptoRow.holds Tryz.pinned (OpenSpec.upto fnExactLayoutTreeSpec)

/-- 'laws.FnExactNaturalLayout', WHERE WHAT IT READS IS OF BULK AT MOST 1048576: true; the input reads as it did. -/
def fnExactNaturalLayoutUptoRow : OpenClaim := { program := "ytpfhnhhkfobjnaagreat", sum := "7305b0205e29349afa17e86f96135ae13d15f82ec62e3358537f01cc0eb980b9", func := "loop.example/widgetroom/laws.FnExactNaturalLayout", spec := "fnExactNaturalLayout", unfollowed := true, recurses := true, apart := false, narrowed := true }
def FnExactNaturalLayoutUptoSaid : Prop := fnExactNaturalLayoutUptoRow.holds Tryz.pinned (OpenSpec.upto fnExactNaturalLayoutSpec)

/-- 'laws.FnExactOverlapsIn', WHERE WHAT IT READS IS OF BULK AT MOST 1048576: true; the input reads as it did. -/
def fnExactOverlapsInUptoRow : OpenClaim := { program := "ytpfhnhhkfobjnaagreat", sum := "7305b0205e29349afa17e86f96135ae13d15f82ec62e3358537f01cc0eb980b9", func := "loop.example/widgetroom/laws.FnExactOverlapsIn", spec := "fnExactOverlapsIn", unfollowed := true, recurses := true, apart := false, narrowed := true }
def FnExactOverlapsInUptoSaid : Prop := fnExactOverlapsInUptoRow.holds Tryz.pinned (OpenSpec.upto fnExactOverlapsInSpec)

/-- 'laws.FnExactHiddenNodes', WHERE WHAT IT READS IS OF BULK AT MOST 1048576: true; the input reads as it did. -/
def fnExactHiddenNodesUptoRow : OpenClaim := { program := "ytpfhnhhkfobjnaagreat", sum := "7305b0205e29349afa17e86f96135ae13d15f82ec62e3358537f01cc0eb980b9", func := "loop.example/widgetroom/laws.FnExactHiddenNodes", spec := "fnExactHiddenNodes", unfollowed := true, recurses := true, apart := false, narrowed := true }
def FnExactHiddenNodesUptoSaid : Prop := fnExactHiddenNodesUptoRow.holds Tryz.pinned (OpenSpec.upto fnExactHiddenNodesSpec)

end Rows
end Go.Proofs.YtpfhnhhkfobjnaaGreat
