/-
  No cell of these rows narrows 'for every input' (looked for: loops, veiled, ifaces, maps, wideKeys, modest, calm, conditions, laid).
  DERIVED. THE GIVEN ROWS OF THIS SEAT. 11 by the template 'for every input the law returns true; each argument reads behind the call as it read before'; 0 by the template 'total and deterministic' (their statements: YticgjepndfjafaaTotals.lean).
  GIVEN WITH THE SEED: the statements are not yours to turn. If you find one false, say at which input.
  Laid BY PROGRAM, IN A SANDBOX (cutbox-rows.mjs): the forced cells as the released guide's own fill.sh prints them over the translation 4113d8b648876a4f… (all of the seat's roots in one cut). By AI agents, Wed Nov 11 2026. No macro, syntax, notation, axiom, sorry.
-/
import Derived.Test.YticgjepndfjafaaChecked
import GoSem.Claim
import GoSem.ClaimJoined
import GoSem.ClaimMapViews
import Derived.JoinedTies
import Derived.KernelRfl
namespace Go.Proofs.Yticgjepndfjafaa
/- THE CELL 'sum', in the pinned program and in every row, IS THE sha256 OF THE DUMP (.gsa) THAT YticgjepndfjafaaProg.lean LOADS. Nothing in Lean hashes anything: it is a label: what it is worth is what the hold of that sum in a sandbox is worth. -/
noncomputable def Try.pinned : Pinned := { name := "yticgjepndfjafaa", sum := "4113d8b648876a4ff850f9fb8b2dacf76826991eb577b6f897010b05b0d9b948", checked := Try.checked }
namespace Rows
def none {H : Type} : Left H := { results := [], args := [] }

/-- 'laws.FnValidTree': WHATEVER THE INPUT: true; the input reads as it did. -/
def fnValidTreeSpec : ChangeSpec := { name := "fnValidTree", fn := fun _ => fun
  | [d] => { results := [.lit (.bool true)], args := [d] }
  | _ => none }
def fnValidTreeRow : OpenClaim := { program := "yticgjepndfjafaa", sum := "4113d8b648876a4ff850f9fb8b2dacf76826991eb577b6f897010b05b0d9b948", func := "loop.example/widgetroom/laws.FnValidTree", spec := "fnValidTree", unfollowed := true, recurses := true, apart := false }
def FnValidTreeSaid : Prop := fnValidTreeRow.holds Try.pinned (OpenSpec.ofChange fnValidTreeSpec)

/-- ITS FALSE NEIGHBOUR: 'it returns false'. Refute it at one input. -/
def fnValidTreeWrong : ChangeSpec := { name := "fnValidTree", fn := fun _ => fun
  | [d] => { results := [.lit (.bool false)], args := [d] }
  | _ => none }
def FnValidTreeWrongFalsely : Prop := fnValidTreeRow.holds Try.pinned (OpenSpec.ofChange fnValidTreeWrong)

/-- 'laws.FnWayUp': WHATEVER THE INPUT: true; the input reads as it did. -/
def fnWayUpSpec : ChangeSpec := { name := "fnWayUp", fn := fun _ => fun
  | [d] => { results := [.lit (.bool true)], args := [d] }
  | _ => none }
def fnWayUpRow : OpenClaim := { program := "yticgjepndfjafaa", sum := "4113d8b648876a4ff850f9fb8b2dacf76826991eb577b6f897010b05b0d9b948", func := "loop.example/widgetroom/laws.FnWayUp", spec := "fnWayUp", unfollowed := true, recurses := true, apart := false }
def FnWayUpSaid : Prop := fnWayUpRow.holds Try.pinned (OpenSpec.ofChange fnWayUpSpec)

/-- ITS FALSE NEIGHBOUR: 'it returns false'. Refute it at one input. -/
def fnWayUpWrong : ChangeSpec := { name := "fnWayUp", fn := fun _ => fun
  | [d] => { results := [.lit (.bool false)], args := [d] }
  | _ => none }
def FnWayUpWrongFalsely : Prop := fnWayUpRow.holds Try.pinned (OpenSpec.ofChange fnWayUpWrong)

/-- 'laws.FnAskFor': WHATEVER THE INPUT: true; the input reads as it did. -/
def fnAskForSpec : ChangeSpec := { name := "fnAskFor", fn := fun _ => fun
  | [d] => { results := [.lit (.bool true)], args := [d] }
  | _ => none }
def fnAskForRow : OpenClaim := { program := "yticgjepndfjafaa", sum := "4113d8b648876a4ff850f9fb8b2dacf76826991eb577b6f897010b05b0d9b948", func := "loop.example/widgetroom/laws.FnAskFor", spec := "fnAskFor", unfollowed := true, recurses := true, apart := false }
def FnAskForSaid : Prop := fnAskForRow.holds Try.pinned (OpenSpec.ofChange fnAskForSpec)

/-- ITS FALSE NEIGHBOUR: 'it returns false'. Refute it at one input. -/
def fnAskForWrong : ChangeSpec := { name := "fnAskFor", fn := fun _ => fun
  | [d] => { results := [.lit (.bool false)], args := [d] }
  | _ => none }
def FnAskForWrongFalsely : Prop := fnAskForRow.holds Try.pinned (OpenSpec.ofChange fnAskForWrong)

/-- 'laws.FnRequestOf': WHATEVER THE INPUT: true; the input reads as it did. -/
def fnRequestOfSpec : ChangeSpec := { name := "fnRequestOf", fn := fun _ => fun
  | [d] => { results := [.lit (.bool true)], args := [d] }
  | _ => none }
def fnRequestOfRow : OpenClaim := { program := "yticgjepndfjafaa", sum := "4113d8b648876a4ff850f9fb8b2dacf76826991eb577b6f897010b05b0d9b948", func := "loop.example/widgetroom/laws.FnRequestOf", spec := "fnRequestOf", unfollowed := true, recurses := true, apart := false }
def FnRequestOfSaid : Prop := fnRequestOfRow.holds Try.pinned (OpenSpec.ofChange fnRequestOfSpec)

/-- ITS FALSE NEIGHBOUR: 'it returns false'. Refute it at one input. -/
def fnRequestOfWrong : ChangeSpec := { name := "fnRequestOf", fn := fun _ => fun
  | [d] => { results := [.lit (.bool false)], args := [d] }
  | _ => none }
def FnRequestOfWrongFalsely : Prop := fnRequestOfRow.holds Try.pinned (OpenSpec.ofChange fnRequestOfWrong)

/-- 'laws.FnTouchedBy': WHATEVER THE INPUT: true; the input reads as it did. -/
def fnTouchedBySpec : ChangeSpec := { name := "fnTouchedBy", fn := fun _ => fun
  | [d] => { results := [.lit (.bool true)], args := [d] }
  | _ => none }
def fnTouchedByRow : OpenClaim := { program := "yticgjepndfjafaa", sum := "4113d8b648876a4ff850f9fb8b2dacf76826991eb577b6f897010b05b0d9b948", func := "loop.example/widgetroom/laws.FnTouchedBy", spec := "fnTouchedBy", unfollowed := true, recurses := true, apart := false }
def FnTouchedBySaid : Prop := fnTouchedByRow.holds Try.pinned (OpenSpec.ofChange fnTouchedBySpec)

/-- ITS FALSE NEIGHBOUR: 'it returns false'. Refute it at one input. -/
def fnTouchedByWrong : ChangeSpec := { name := "fnTouchedBy", fn := fun _ => fun
  | [d] => { results := [.lit (.bool false)], args := [d] }
  | _ => none }
def FnTouchedByWrongFalsely : Prop := fnTouchedByRow.holds Try.pinned (OpenSpec.ofChange fnTouchedByWrong)

/-- 'laws.FnLayoutTree': WHATEVER THE INPUT: true; the input reads as it did. -/
def fnLayoutTreeSpec : ChangeSpec := { name := "fnLayoutTree", fn := fun _ => fun
  | [d] => { results := [.lit (.bool true)], args := [d] }
  | _ => none }
def fnLayoutTreeRow : OpenClaim := { program := "yticgjepndfjafaa", sum := "4113d8b648876a4ff850f9fb8b2dacf76826991eb577b6f897010b05b0d9b948", func := "loop.example/widgetroom/laws.FnLayoutTree", spec := "fnLayoutTree", unfollowed := true, recurses := true, apart := false }
def FnLayoutTreeSaid : Prop := fnLayoutTreeRow.holds Try.pinned (OpenSpec.ofChange fnLayoutTreeSpec)

/-- ITS FALSE NEIGHBOUR: 'it returns false'. Refute it at one input. -/
def fnLayoutTreeWrong : ChangeSpec := { name := "fnLayoutTree", fn := fun _ => fun
  | [d] => { results := [.lit (.bool false)], args := [d] }
  | _ => none }
def FnLayoutTreeWrongFalsely : Prop := fnLayoutTreeRow.holds Try.pinned (OpenSpec.ofChange fnLayoutTreeWrong)

/-- 'laws.FnLayoutTreePack': WHATEVER THE INPUT: true; the input reads as it did. -/
def fnLayoutTreePackSpec : ChangeSpec := { name := "fnLayoutTreePack", fn := fun _ => fun
  | [d] => { results := [.lit (.bool true)], args := [d] }
  | _ => none }
def fnLayoutTreePackRow : OpenClaim := { program := "yticgjepndfjafaa", sum := "4113d8b648876a4ff850f9fb8b2dacf76826991eb577b6f897010b05b0d9b948", func := "loop.example/widgetroom/laws.FnLayoutTreePack", spec := "fnLayoutTreePack", unfollowed := true, recurses := true, apart := false }
def FnLayoutTreePackSaid : Prop := fnLayoutTreePackRow.holds Try.pinned (OpenSpec.ofChange fnLayoutTreePackSpec)

/-- ITS FALSE NEIGHBOUR: 'it returns false'. Refute it at one input. -/
def fnLayoutTreePackWrong : ChangeSpec := { name := "fnLayoutTreePack", fn := fun _ => fun
  | [d] => { results := [.lit (.bool false)], args := [d] }
  | _ => none }
def FnLayoutTreePackWrongFalsely : Prop := fnLayoutTreePackRow.holds Try.pinned (OpenSpec.ofChange fnLayoutTreePackWrong)

/-- 'laws.FnNaturalLayout': WHATEVER THE INPUT: true; the input reads as it did. -/
def fnNaturalLayoutSpec : ChangeSpec := { name := "fnNaturalLayout", fn := fun _ => fun
  | [d] => { results := [.lit (.bool true)], args := [d] }
  | _ => none }
def fnNaturalLayoutRow : OpenClaim := { program := "yticgjepndfjafaa", sum := "4113d8b648876a4ff850f9fb8b2dacf76826991eb577b6f897010b05b0d9b948", func := "loop.example/widgetroom/laws.FnNaturalLayout", spec := "fnNaturalLayout", unfollowed := true, recurses := true, apart := false }
def FnNaturalLayoutSaid : Prop := fnNaturalLayoutRow.holds Try.pinned (OpenSpec.ofChange fnNaturalLayoutSpec)

/-- ITS FALSE NEIGHBOUR: 'it returns false'. Refute it at one input. -/
def fnNaturalLayoutWrong : ChangeSpec := { name := "fnNaturalLayout", fn := fun _ => fun
  | [d] => { results := [.lit (.bool false)], args := [d] }
  | _ => none }
def FnNaturalLayoutWrongFalsely : Prop := fnNaturalLayoutRow.holds Try.pinned (OpenSpec.ofChange fnNaturalLayoutWrong)

/-- 'laws.FnCutNodes': WHATEVER THE INPUT: true; the input reads as it did. -/
def fnCutNodesSpec : ChangeSpec := { name := "fnCutNodes", fn := fun _ => fun
  | [d] => { results := [.lit (.bool true)], args := [d] }
  | _ => none }
def fnCutNodesRow : OpenClaim := { program := "yticgjepndfjafaa", sum := "4113d8b648876a4ff850f9fb8b2dacf76826991eb577b6f897010b05b0d9b948", func := "loop.example/widgetroom/laws.FnCutNodes", spec := "fnCutNodes", unfollowed := true, recurses := true, apart := false }
def FnCutNodesSaid : Prop := fnCutNodesRow.holds Try.pinned (OpenSpec.ofChange fnCutNodesSpec)

/-- ITS FALSE NEIGHBOUR: 'it returns false'. Refute it at one input. -/
def fnCutNodesWrong : ChangeSpec := { name := "fnCutNodes", fn := fun _ => fun
  | [d] => { results := [.lit (.bool false)], args := [d] }
  | _ => none }
def FnCutNodesWrongFalsely : Prop := fnCutNodesRow.holds Try.pinned (OpenSpec.ofChange fnCutNodesWrong)

/-- 'laws.FnOverlapsIn': WHATEVER THE INPUT: true; the input reads as it did. -/
def fnOverlapsInSpec : ChangeSpec := { name := "fnOverlapsIn", fn := fun _ => fun
  | [d] => { results := [.lit (.bool true)], args := [d] }
  | _ => none }
def fnOverlapsInRow : OpenClaim := { program := "yticgjepndfjafaa", sum := "4113d8b648876a4ff850f9fb8b2dacf76826991eb577b6f897010b05b0d9b948", func := "loop.example/widgetroom/laws.FnOverlapsIn", spec := "fnOverlapsIn", unfollowed := true, recurses := true, apart := false }
def FnOverlapsInSaid : Prop := fnOverlapsInRow.holds Try.pinned (OpenSpec.ofChange fnOverlapsInSpec)

/-- ITS FALSE NEIGHBOUR: 'it returns false'. Refute it at one input. -/
def fnOverlapsInWrong : ChangeSpec := { name := "fnOverlapsIn", fn := fun _ => fun
  | [d] => { results := [.lit (.bool false)], args := [d] }
  | _ => none }
def FnOverlapsInWrongFalsely : Prop := fnOverlapsInRow.holds Try.pinned (OpenSpec.ofChange fnOverlapsInWrong)

/-- 'laws.FnHitNode': WHATEVER THE INPUT: true; the input reads as it did. -/
def fnHitNodeSpec : ChangeSpec := { name := "fnHitNode", fn := fun _ => fun
  | [d] => { results := [.lit (.bool true)], args := [d] }
  | _ => none }
def fnHitNodeRow : OpenClaim := { program := "yticgjepndfjafaa", sum := "4113d8b648876a4ff850f9fb8b2dacf76826991eb577b6f897010b05b0d9b948", func := "loop.example/widgetroom/laws.FnHitNode", spec := "fnHitNode", unfollowed := true, recurses := true, apart := false }
def FnHitNodeSaid : Prop := fnHitNodeRow.holds Try.pinned (OpenSpec.ofChange fnHitNodeSpec)

/-- ITS FALSE NEIGHBOUR: 'it returns false'. Refute it at one input. -/
def fnHitNodeWrong : ChangeSpec := { name := "fnHitNode", fn := fun _ => fun
  | [d] => { results := [.lit (.bool false)], args := [d] }
  | _ => none }
def FnHitNodeWrongFalsely : Prop := fnHitNodeRow.holds Try.pinned (OpenSpec.ofChange fnHitNodeWrong)

/- THE SECOND FORM. 'bulk': how many values and letters a reading holds, each counted each time it is reached (what is shared counts as often as it is met; a slice's spare places count too). A statement '..UptoSaid' is the law's where the arguments, and the package variables that the reading takes, are together of bulk at most 1048576: NARROWER than '..Said'. Prove '..Said' where nothing that the law and all that it calls make is longer than what came in: it says more and counts as full. Else prove '..UptoSaid'. A law counts once. -/
mutual
def uptoBulk {H : Type} : DataW H → Nat
  | .lit (.string bytes) => bytes.length + 1
  | .lit _ => 1
  | .nil => 1
  | .ptr d => uptoBulk d + 1
  | .slice elems spare => uptoBulkAll elems + uptoBulkAll spare + 1
  | .agg parts => uptoBulkAll parts + 1
  | .iface _ d => uptoBulk d + 1
  | .map entries => uptoBulkEntries entries + 1
  | .held _ => 1
def uptoBulkAll {H : Type} : List (DataW H) → Nat
  | [] => 0
  | d :: r => uptoBulk d + uptoBulkAll r
def uptoBulkEntries {H : Type} : List (Lit × DataW H) → Nat
  | [] => 0
  | x :: r => uptoBulkEntry x + uptoBulkEntries r
def uptoBulkEntry {H : Type} : Lit × DataW H → Nat
  | (.string bytes, d) => bytes.length + uptoBulk d + 1
  | (_, d) => uptoBulk d + 1
 end
def uptoSmall : (H : Type) → List (DataW H) → Bool := fun _ ds => decide (uptoBulkAll ds ≤ 1048576)
def OpenSpec.upto (s : _root_.Go.ChangeSpec) : _root_.Go.OpenSpec := { _root_.Go.OpenSpec.ofChange s with cond := some uptoSmall }

/-- 'laws.FnValidTree', WHERE WHAT IT READS IS OF BULK AT MOST 1048576: true; the input reads as it did. -/
def fnValidTreeUptoRow : OpenClaim := { program := "yticgjepndfjafaa", sum := "4113d8b648876a4ff850f9fb8b2dacf76826991eb577b6f897010b05b0d9b948", func := "loop.example/widgetroom/laws.FnValidTree", spec := "fnValidTree", unfollowed := true, recurses := true, apart := false, narrowed := true }
def FnValidTreeUptoSaid : Prop := fnValidTreeUptoRow.holds Try.pinned (OpenSpec.upto fnValidTreeSpec)

/-- 'laws.FnWayUp', WHERE WHAT IT READS IS OF BULK AT MOST 1048576: true; the input reads as it did. -/
def fnWayUpUptoRow : OpenClaim := { program := "yticgjepndfjafaa", sum := "4113d8b648876a4ff850f9fb8b2dacf76826991eb577b6f897010b05b0d9b948", func := "loop.example/widgetroom/laws.FnWayUp", spec := "fnWayUp", unfollowed := true, recurses := true, apart := false, narrowed := true }
def FnWayUpUptoSaid : Prop := fnWayUpUptoRow.holds Try.pinned (OpenSpec.upto fnWayUpSpec)

/-- 'laws.FnAskFor', WHERE WHAT IT READS IS OF BULK AT MOST 1048576: true; the input reads as it did. -/
def fnAskForUptoRow : OpenClaim := { program := "yticgjepndfjafaa", sum := "4113d8b648876a4ff850f9fb8b2dacf76826991eb577b6f897010b05b0d9b948", func := "loop.example/widgetroom/laws.FnAskFor", spec := "fnAskFor", unfollowed := true, recurses := true, apart := false, narrowed := true }
def FnAskForUptoSaid : Prop := fnAskForUptoRow.holds Try.pinned (OpenSpec.upto fnAskForSpec)

/-- 'laws.FnRequestOf', WHERE WHAT IT READS IS OF BULK AT MOST 1048576: true; the input reads as it did. -/
def fnRequestOfUptoRow : OpenClaim := { program := "yticgjepndfjafaa", sum := "4113d8b648876a4ff850f9fb8b2dacf76826991eb577b6f897010b05b0d9b948", func := "loop.example/widgetroom/laws.FnRequestOf", spec := "fnRequestOf", unfollowed := true, recurses := true, apart := false, narrowed := true }
def FnRequestOfUptoSaid : Prop := fnRequestOfUptoRow.holds Try.pinned (OpenSpec.upto fnRequestOfSpec)

/-- 'laws.FnTouchedBy', WHERE WHAT IT READS IS OF BULK AT MOST 1048576: true; the input reads as it did. -/
def fnTouchedByUptoRow : OpenClaim := { program := "yticgjepndfjafaa", sum := "4113d8b648876a4ff850f9fb8b2dacf76826991eb577b6f897010b05b0d9b948", func := "loop.example/widgetroom/laws.FnTouchedBy", spec := "fnTouchedBy", unfollowed := true, recurses := true, apart := false, narrowed := true }
def FnTouchedByUptoSaid : Prop := fnTouchedByUptoRow.holds Try.pinned (OpenSpec.upto fnTouchedBySpec)

/-- 'laws.FnLayoutTree', WHERE WHAT IT READS IS OF BULK AT MOST 1048576: true; the input reads as it did. -/
def fnLayoutTreeUptoRow : OpenClaim := { program := "yticgjepndfjafaa", sum := "4113d8b648876a4ff850f9fb8b2dacf76826991eb577b6f897010b05b0d9b948", func := "loop.example/widgetroom/laws.FnLayoutTree", spec := "fnLayoutTree", unfollowed := true, recurses := true, apart := false, narrowed := true }
def FnLayoutTreeUptoSaid : Prop := fnLayoutTreeUptoRow.holds Try.pinned (OpenSpec.upto fnLayoutTreeSpec)

/-- 'laws.FnLayoutTreePack', WHERE WHAT IT READS IS OF BULK AT MOST 1048576: true; the input reads as it did. -/
def fnLayoutTreePackUptoRow : OpenClaim := { program := "yticgjepndfjafaa", sum := "4113d8b648876a4ff850f9fb8b2dacf76826991eb577b6f897010b05b0d9b948", func := "loop.example/widgetroom/laws.FnLayoutTreePack", spec := "fnLayoutTreePack", unfollowed := true, recurses := true, apart := false, narrowed := true }
def FnLayoutTreePackUptoSaid : Prop := fnLayoutTreePackUptoRow.holds Try.pinned (OpenSpec.upto fnLayoutTreePackSpec)

/-- 'laws.FnNaturalLayout', WHERE WHAT IT READS IS OF BULK AT MOST 1048576: true; the input reads as it did. -/
def fnNaturalLayoutUptoRow : OpenClaim := { program := "yticgjepndfjafaa", sum := "4113d8b648876a4ff850f9fb8b2dacf76826991eb577b6f897010b05b0d9b948", func := "loop.example/widgetroom/laws.FnNaturalLayout", spec := "fnNaturalLayout", unfollowed := true, recurses := true, apart := false, narrowed := true }
def FnNaturalLayoutUptoSaid : Prop := fnNaturalLayoutUptoRow.holds Try.pinned (OpenSpec.upto fnNaturalLayoutSpec)

/-- 'laws.FnCutNodes', WHERE WHAT IT READS IS OF BULK AT MOST 1048576: true; the input reads as it did. -/
def fnCutNodesUptoRow : OpenClaim := { program := "yticgjepndfjafaa", sum := "4113d8b648876a4ff850f9fb8b2dacf76826991eb577b6f897010b05b0d9b948", func := "loop.example/widgetroom/laws.FnCutNodes", spec := "fnCutNodes", unfollowed := true, recurses := true, apart := false, narrowed := true }
def FnCutNodesUptoSaid : Prop := fnCutNodesUptoRow.holds Try.pinned (OpenSpec.upto fnCutNodesSpec)

/-- 'laws.FnOverlapsIn', WHERE WHAT IT READS IS OF BULK AT MOST 1048576: true; the input reads as it did. -/
def fnOverlapsInUptoRow : OpenClaim := { program := "yticgjepndfjafaa", sum := "4113d8b648876a4ff850f9fb8b2dacf76826991eb577b6f897010b05b0d9b948", func := "loop.example/widgetroom/laws.FnOverlapsIn", spec := "fnOverlapsIn", unfollowed := true, recurses := true, apart := false, narrowed := true }
def FnOverlapsInUptoSaid : Prop := fnOverlapsInUptoRow.holds Try.pinned (OpenSpec.upto fnOverlapsInSpec)

/-- 'laws.FnHitNode', WHERE WHAT IT READS IS OF BULK AT MOST 1048576: true; the input reads as it did. -/
def fnHitNodeUptoRow : OpenClaim := { program := "yticgjepndfjafaa", sum := "4113d8b648876a4ff850f9fb8b2dacf76826991eb577b6f897010b05b0d9b948", func := "loop.example/widgetroom/laws.FnHitNode", spec := "fnHitNode", unfollowed := true, recurses := true, apart := false, narrowed := true }
def FnHitNodeUptoSaid : Prop := fnHitNodeUptoRow.holds Try.pinned (OpenSpec.upto fnHitNodeSpec)

end Rows
end Go.Proofs.Yticgjepndfjafaa
