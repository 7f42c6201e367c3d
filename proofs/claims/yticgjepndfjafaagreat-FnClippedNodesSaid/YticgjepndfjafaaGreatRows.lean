/-
  No cell of these rows narrows 'for every input' (looked for: loops, veiled, ifaces, maps, wideKeys, modest, calm, conditions, laid).
  DERIVED. THE GIVEN ROWS OF THIS SEAT. 4 by the template 'for every input the law returns true; each argument reads behind the call as it read before'; 0 by the template 'total and deterministic' (their statements: YticgjepndfjafaaGreatTotals.lean).
  GIVEN WITH THE SEED: the statements are not yours to turn. If you find one false, say at which input.
  Laid BY PROGRAM, IN A SANDBOX (cutbox-rows.mjs): the forced cells as the released guide's own fill.sh prints them over the translation 129657d0bcb617b3… (all of the seat's roots in one cut). By AI agents, Wed Nov 11 2026. No macro, syntax, notation, axiom, sorry.
-/
import Derived.Test.YticgjepndfjafaaGreatChecked
import GoSem.Claim
import GoSem.ClaimJoined
import GoSem.ClaimMapViews
import Derived.JoinedTies
import Derived.KernelRfl
namespace Go.Proofs.YticgjepndfjafaaGreat
/- THE CELL 'sum', in the pinned program and in every row, IS THE sha256 OF THE DUMP (.gsa) THAT YticgjepndfjafaaGreatProg.lean LOADS. Nothing in Lean hashes anything: it is a label: what it is worth is what the hold of that sum in a sandbox is worth. -/
noncomputable def Tryz.pinned : Pinned := { name := "yticgjepndfjafaagreat", sum := "129657d0bcb617b3e7c1c5887081884cd701ed91d5a938faf8bb7809d6a0f4e0", checked := Tryz.checked }
namespace Rows
def none {H : Type} : Left H := { results := [], args := [] }

/-- 'laws.FnSeenPart': WHATEVER THE INPUT: true; the input reads as it did. -/
def fnSeenPartSpec : ChangeSpec := { name := "fnSeenPart", fn := fun _ => fun
  | [d] => { results := [.lit (.bool true)], args := [d] }
  | _ => none }
def fnSeenPartRow : OpenClaim := { program := "yticgjepndfjafaagreat", sum := "129657d0bcb617b3e7c1c5887081884cd701ed91d5a938faf8bb7809d6a0f4e0", func := "loop.example/widgetroom/laws.FnSeenPart", spec := "fnSeenPart", unfollowed := true, recurses := true, apart := false }
def FnSeenPartSaid : Prop := fnSeenPartRow.holds Tryz.pinned (OpenSpec.ofChange fnSeenPartSpec)

/-- ITS FALSE NEIGHBOUR: 'it returns false'. Refute it at one input. -/
def fnSeenPartWrong : ChangeSpec := { name := "fnSeenPart", fn := fun _ => fun
  | [d] => { results := [.lit (.bool false)], args := [d] }
  | _ => none }
def FnSeenPartWrongFalsely : Prop := fnSeenPartRow.holds Tryz.pinned (OpenSpec.ofChange fnSeenPartWrong)

/-- 'laws.FnClippedNodes': WHATEVER THE INPUT: true; the input reads as it did. -/
def fnClippedNodesSpec : ChangeSpec := { name := "fnClippedNodes", fn := fun _ => fun
  | [d] => { results := [.lit (.bool true)], args := [d] }
  | _ => none }
def fnClippedNodesRow : OpenClaim := { program := "yticgjepndfjafaagreat", sum := "129657d0bcb617b3e7c1c5887081884cd701ed91d5a938faf8bb7809d6a0f4e0", func := "loop.example/widgetroom/laws.FnClippedNodes", spec := "fnClippedNodes", unfollowed := true, recurses := true, apart := false }
def FnClippedNodesSaid : Prop := fnClippedNodesRow.holds Tryz.pinned (OpenSpec.ofChange fnClippedNodesSpec)

/-- ITS FALSE NEIGHBOUR: 'it returns false'. Refute it at one input. -/
def fnClippedNodesWrong : ChangeSpec := { name := "fnClippedNodes", fn := fun _ => fun
  | [d] => { results := [.lit (.bool false)], args := [d] }
  | _ => none }
def FnClippedNodesWrongFalsely : Prop := fnClippedNodesRow.holds Tryz.pinned (OpenSpec.ofChange fnClippedNodesWrong)

/-- 'laws.FnHiddenNodes': WHATEVER THE INPUT: true; the input reads as it did. -/
def fnHiddenNodesSpec : ChangeSpec := { name := "fnHiddenNodes", fn := fun _ => fun
  | [d] => { results := [.lit (.bool true)], args := [d] }
  | _ => none }
def fnHiddenNodesRow : OpenClaim := { program := "yticgjepndfjafaagreat", sum := "129657d0bcb617b3e7c1c5887081884cd701ed91d5a938faf8bb7809d6a0f4e0", func := "loop.example/widgetroom/laws.FnHiddenNodes", spec := "fnHiddenNodes", unfollowed := true, recurses := true, apart := false }
def FnHiddenNodesSaid : Prop := fnHiddenNodesRow.holds Tryz.pinned (OpenSpec.ofChange fnHiddenNodesSpec)

/-- ITS FALSE NEIGHBOUR: 'it returns false'. Refute it at one input. -/
def fnHiddenNodesWrong : ChangeSpec := { name := "fnHiddenNodes", fn := fun _ => fun
  | [d] => { results := [.lit (.bool false)], args := [d] }
  | _ => none }
def FnHiddenNodesWrongFalsely : Prop := fnHiddenNodesRow.holds Tryz.pinned (OpenSpec.ofChange fnHiddenNodesWrong)

/-- 'laws.FnMovedBy': WHATEVER THE INPUT: true; the input reads as it did. -/
def fnMovedBySpec : ChangeSpec := { name := "fnMovedBy", fn := fun _ => fun
  | [d] => { results := [.lit (.bool true)], args := [d] }
  | _ => none }
def fnMovedByRow : OpenClaim := { program := "yticgjepndfjafaagreat", sum := "129657d0bcb617b3e7c1c5887081884cd701ed91d5a938faf8bb7809d6a0f4e0", func := "loop.example/widgetroom/laws.FnMovedBy", spec := "fnMovedBy", unfollowed := true, recurses := true, apart := false }
def FnMovedBySaid : Prop := fnMovedByRow.holds Tryz.pinned (OpenSpec.ofChange fnMovedBySpec)

/-- ITS FALSE NEIGHBOUR: 'it returns false'. Refute it at one input. -/
def fnMovedByWrong : ChangeSpec := { name := "fnMovedBy", fn := fun _ => fun
  | [d] => { results := [.lit (.bool false)], args := [d] }
  | _ => none }
def FnMovedByWrongFalsely : Prop := fnMovedByRow.holds Tryz.pinned (OpenSpec.ofChange fnMovedByWrong)

/- THE SECOND FORM. 'bulk': how many values and letters a reading holds, each counted each time it is reached (what is shared counts as often as it is met; a slice's spare places count too). A statement '..UptoSaid' is the law's where the arguments, and the package variables that the reading takes, are together of bulk at most 1048576: NARROWER than '..Said'. Prove '..Said' where nothing that the law and all that it calls make is longer than what came in: it says more and counts as full. Else prove '..UptoSaid'. A law counts once. -/
mutual
def uptoBulk {H : Type} : DataW H → Nat
  | .lit (.string bytes) => bytes.length + 1
  | .lit _ => 1
  | .nil => 1
  | .ptr d => uptoBulk d + 1
  | .slice elems spare => uptoBulkAll elems + uptoBulkAll spare + 1
  | .agg parts => uptoBulkAll parts + 1
  | .iface _ d => uptoBulk d + 1
  | .map entries => uptoBulkEntries entries + 1
  | .held _ => 1
def uptoBulkAll {H : Type} : List (DataW H) → Nat
  | [] => 0
  | d :: r => uptoBulk d + uptoBulkAll r
def uptoBulkEntries {H : Type} : List (Lit × DataW H) → Nat
  | [] => 0
  | x :: r => uptoBulkEntry x + uptoBulkEntries r
def uptoBulkEntry {H : Type} : Lit × DataW H → Nat
  | (.string bytes, d) => bytes.length + uptoBulk d + 1
  | (_, d) => uptoBulk d + 1
 end
def uptoSmall : (H : Type) → List (DataW H) → Bool := fun _ ds => decide (uptoBulkAll ds ≤ 1048576)
def OpenSpec.upto (s : _root_.Go.ChangeSpec) : _root_.Go.OpenSpec := { _root_.Go.OpenSpec.ofChange s with cond := some uptoSmall }

/-- 'laws.FnSeenPart', WHERE WHAT IT READS IS OF BULK AT MOST 1048576: true; the input reads as it did. -/
def fnSeenPartUptoRow : OpenClaim := { program := "yticgjepndfjafaagreat", sum := "129657d0bcb617b3e7c1c5887081884cd701ed91d5a938faf8bb7809d6a0f4e0", func := "loop.example/widgetroom/laws.FnSeenPart", spec := "fnSeenPart", unfollowed := true, recurses := true, apart := false, narrowed := true }
def FnSeenPartUptoSaid : Prop := fnSeenPartUptoRow.holds Tryz.pinned (OpenSpec.upto fnSeenPartSpec)

/-- 'laws.FnClippedNodes', WHERE WHAT IT READS IS OF BULK AT MOST 1048576: true; the input reads as it did. -/
def fnClippedNodesUptoRow : OpenClaim := { program := "yticgjepndfjafaagreat", sum := "129657d0bcb617b3e7c1c5887081884cd701ed91d5a938faf8bb7809d6a0f4e0", func := "loop.example/widgetroom/laws.FnClippedNodes", spec := "fnClippedNodes", unfollowed := true, recurses := true, apart := false, narrowed := true }
def FnClippedNodesUptoSaid : Prop := fnClippedNodesUptoRow.holds Tryz.pinned (OpenSpec.upto fnClippedNodesSpec)

/-- 'laws.FnHiddenNodes', WHERE WHAT IT READS IS OF BULK AT MOST 1048576: true; the input reads as it did. -/
def fnHiddenNodesUptoRow : OpenClaim := { program := "yticgjepndfjafaagreat", sum := "129657d0bcb617b3e7c1c5887081884cd701ed91d5a938faf8bb7809d6a0f4e0", func := "loop.example/widgetroom/laws.FnHiddenNodes", spec := "fnHiddenNodes", unfollowed := true, recurses := true, apart := false, narrowed := true }
def FnHiddenNodesUptoSaid : Prop := fnHiddenNodesUptoRow.holds Tryz.pinned (OpenSpec.upto fnHiddenNodesSpec)

/-- 'laws.FnMovedBy', WHERE WHAT IT READS IS OF BULK AT MOST 1048576: true; the input reads as it did. -/
def fnMovedByUptoRow : OpenClaim := { program := "yticgjepndfjafaagreat", sum := "129657d0bcb617b3e7c1c5887081884cd701ed91d5a938faf8bb7809d6a0f4e0", func := "loop.example/widgetroom/laws.FnMovedBy", spec := "fnMovedBy", unfollowed := true, recurses := true, apart := false, narrowed := true }
def FnMovedByUptoSaid : Prop := fnMovedByUptoRow.holds Tryz.pinned (OpenSpec.upto fnMovedBySpec)

end Rows
end Go.Proofs.YticgjepndfjafaaGreat
