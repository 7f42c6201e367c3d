/-
  No cell of these rows narrows 'for every input' (looked for: loops, veiled, ifaces, maps, wideKeys, modest, calm, conditions, laid).
  DERIVED. THE GIVEN ROWS OF THIS SEAT. 10 by the template 'for every input the law returns true; each argument reads behind the call as it read before'; 0 by the template 'total and deterministic' (their statements: YtiajmkppilmjdaaTotals.lean).
  GIVEN WITH THE SEED: the statements are not yours to turn. If you find one false, say at which input.
  Laid BY PROGRAM, IN A SANDBOX (cutbox-rows.mjs): the forced cells as the released guide's own fill.sh prints them over the translation 1921d034eff111d3… (all of the seat's roots in one cut). By AI agents, Wed Nov 11 2026. No macro, syntax, notation, axiom, sorry.
-/
import Derived.Test.YtiajmkppilmjdaaChecked
import GoSem.Claim
import GoSem.ClaimJoined
import GoSem.ClaimMapViews
import Derived.JoinedTies
import Derived.KernelRfl
namespace Go.Proofs.Ytiajmkppilmjdaa
/- THE CELL 'sum', in the pinned program and in every row, IS THE sha256 OF THE DUMP (.gsa) THAT YtiajmkppilmjdaaProg.lean LOADS. Nothing in Lean hashes anything: it is a label: what it is worth is what the hold of that sum in a sandbox is worth. -/
noncomputable def Try.pinned : Pinned := { name := "ytiajmkppilmjdaa", sum := "1921d034eff111d317323c9ea7ee56409a9b2e1d1dce66b8a5f49900c5b2550d", checked := Try.checked }
namespace Rows
def none {H : Type} : Left H := { results := [], args := [] }

/-- 'laws.FnExpandShare': WHATEVER THE INPUT: true; the input reads as it did. -/
def fnExpandShareSpec : ChangeSpec := { name := "fnExpandShare", fn := fun _ => fun
  | [d] => { results := [.lit (.bool true)], args := [d] }
  | _ => none }
def fnExpandShareRow : OpenClaim := { program := "ytiajmkppilmjdaa", sum := "1921d034eff111d317323c9ea7ee56409a9b2e1d1dce66b8a5f49900c5b2550d", func := "loop.example/widgetroom/laws.FnExpandShare", spec := "fnExpandShare", unfollowed := true, recurses := true, apart := false }
def FnExpandShareSaid : Prop := fnExpandShareRow.holds Try.pinned (OpenSpec.ofChange fnExpandShareSpec)

/-- ITS FALSE NEIGHBOUR: 'it returns false'. Refute it at one input. -/
def fnExpandShareWrong : ChangeSpec := { name := "fnExpandShare", fn := fun _ => fun
  | [d] => { results := [.lit (.bool false)], args := [d] }
  | _ => none }
def FnExpandShareWrongFalsely : Prop := fnExpandShareRow.holds Try.pinned (OpenSpec.ofChange fnExpandShareWrong)

/-- 'laws.FnExactPackLeft': WHATEVER THE INPUT: true; the input reads as it did. -/
def fnExactPackLeftSpec : ChangeSpec := { name := "fnExactPackLeft", fn := fun _ => fun
  | [d1, d2, d3] => { results := [.lit (.bool true)], args := [d1, d2, d3] }
  | _ => none }
def fnExactPackLeftRow : OpenClaim := { program := "ytiajmkppilmjdaa", sum := "1921d034eff111d317323c9ea7ee56409a9b2e1d1dce66b8a5f49900c5b2550d", func := "loop.example/widgetroom/laws.FnExactPackLeft", spec := "fnExactPackLeft", unfollowed := true, recurses := true, apart := false }
def FnExactPackLeftSaid : Prop := fnExactPackLeftRow.holds Try.pinned (OpenSpec.ofChange fnExactPackLeftSpec)

/-- ITS FALSE NEIGHBOUR: 'it returns false'. Refute it at one input. -/
def fnExactPackLeftWrong : ChangeSpec := { name := "fnExactPackLeft", fn := fun _ => fun
  | [d1, d2, d3] => { results := [.lit (.bool false)], args := [d1, d2, d3] }
  | _ => none }
def FnExactPackLeftWrongFalsely : Prop := fnExactPackLeftRow.holds Try.pinned (OpenSpec.ofChange fnExactPackLeftWrong)

/-- 'laws.FnPackParcelsFirst': WHATEVER THE INPUT: true; the input reads as it did. -/
def fnPackParcelsFirstSpec : ChangeSpec := { name := "fnPackParcelsFirst", fn := fun _ => fun
  | [d] => { results := [.lit (.bool true)], args := [d] }
  | _ => none }
def fnPackParcelsFirstRow : OpenClaim := { program := "ytiajmkppilmjdaa", sum := "1921d034eff111d317323c9ea7ee56409a9b2e1d1dce66b8a5f49900c5b2550d", func := "loop.example/widgetroom/laws.FnPackParcelsFirst", spec := "fnPackParcelsFirst", unfollowed := true, recurses := true, apart := false }
def FnPackParcelsFirstSaid : Prop := fnPackParcelsFirstRow.holds Try.pinned (OpenSpec.ofChange fnPackParcelsFirstSpec)

/-- ITS FALSE NEIGHBOUR: 'it returns false'. Refute it at one input. -/
def fnPackParcelsFirstWrong : ChangeSpec := { name := "fnPackParcelsFirst", fn := fun _ => fun
  | [d] => { results := [.lit (.bool false)], args := [d] }
  | _ => none }
def FnPackParcelsFirstWrongFalsely : Prop := fnPackParcelsFirstRow.holds Try.pinned (OpenSpec.ofChange fnPackParcelsFirstWrong)

/-- 'laws.FnPackLeft': WHATEVER THE INPUT: true; the input reads as it did. -/
def fnPackLeftSpec : ChangeSpec := { name := "fnPackLeft", fn := fun _ => fun
  | [d] => { results := [.lit (.bool true)], args := [d] }
  | _ => none }
def fnPackLeftRow : OpenClaim := { program := "ytiajmkppilmjdaa", sum := "1921d034eff111d317323c9ea7ee56409a9b2e1d1dce66b8a5f49900c5b2550d", func := "loop.example/widgetroom/laws.FnPackLeft", spec := "fnPackLeft", unfollowed := true, recurses := true, apart := false }
def FnPackLeftSaid : Prop := fnPackLeftRow.holds Try.pinned (OpenSpec.ofChange fnPackLeftSpec)

/-- ITS FALSE NEIGHBOUR: 'it returns false'. Refute it at one input. -/
def fnPackLeftWrong : ChangeSpec := { name := "fnPackLeft", fn := fun _ => fun
  | [d] => { results := [.lit (.bool false)], args := [d] }
  | _ => none }
def FnPackLeftWrongFalsely : Prop := fnPackLeftRow.holds Try.pinned (OpenSpec.ofChange fnPackLeftWrong)

/-- 'laws.FnExactPackFits': WHATEVER THE INPUT: true; the input reads as it did. -/
def fnExactPackFitsSpec : ChangeSpec := { name := "fnExactPackFits", fn := fun _ => fun
  | [d1, d2, d3] => { results := [.lit (.bool true)], args := [d1, d2, d3] }
  | _ => none }
def fnExactPackFitsRow : OpenClaim := { program := "ytiajmkppilmjdaa", sum := "1921d034eff111d317323c9ea7ee56409a9b2e1d1dce66b8a5f49900c5b2550d", func := "loop.example/widgetroom/laws.FnExactPackFits", spec := "fnExactPackFits", unfollowed := true, recurses := true, apart := false }
def FnExactPackFitsSaid : Prop := fnExactPackFitsRow.holds Try.pinned (OpenSpec.ofChange fnExactPackFitsSpec)

/-- ITS FALSE NEIGHBOUR: 'it returns false'. Refute it at one input. -/
def fnExactPackFitsWrong : ChangeSpec := { name := "fnExactPackFits", fn := fun _ => fun
  | [d1, d2, d3] => { results := [.lit (.bool false)], args := [d1, d2, d3] }
  | _ => none }
def FnExactPackFitsWrongFalsely : Prop := fnExactPackFitsRow.holds Try.pinned (OpenSpec.ofChange fnExactPackFitsWrong)

/-- 'laws.FnPackParcels': WHATEVER THE INPUT: true; the input reads as it did. -/
def fnPackParcelsSpec : ChangeSpec := { name := "fnPackParcels", fn := fun _ => fun
  | [d] => { results := [.lit (.bool true)], args := [d] }
  | _ => none }
def fnPackParcelsRow : OpenClaim := { program := "ytiajmkppilmjdaa", sum := "1921d034eff111d317323c9ea7ee56409a9b2e1d1dce66b8a5f49900c5b2550d", func := "loop.example/widgetroom/laws.FnPackParcels", spec := "fnPackParcels", unfollowed := true, recurses := true, apart := false }
def FnPackParcelsSaid : Prop := fnPackParcelsRow.holds Try.pinned (OpenSpec.ofChange fnPackParcelsSpec)

/-- ITS FALSE NEIGHBOUR: 'it returns false'. Refute it at one input. -/
def fnPackParcelsWrong : ChangeSpec := { name := "fnPackParcels", fn := fun _ => fun
  | [d] => { results := [.lit (.bool false)], args := [d] }
  | _ => none }
def FnPackParcelsWrongFalsely : Prop := fnPackParcelsRow.holds Try.pinned (OpenSpec.ofChange fnPackParcelsWrong)

/-- 'laws.FnExactPackParcels': WHATEVER THE INPUT: true; the input reads as it did. -/
def fnExactPackParcelsSpec : ChangeSpec := { name := "fnExactPackParcels", fn := fun _ => fun
  | [d1, d2, d3] => { results := [.lit (.bool true)], args := [d1, d2, d3] }
  | _ => none }
def fnExactPackParcelsRow : OpenClaim := { program := "ytiajmkppilmjdaa", sum := "1921d034eff111d317323c9ea7ee56409a9b2e1d1dce66b8a5f49900c5b2550d", func := "loop.example/widgetroom/laws.FnExactPackParcels", spec := "fnExactPackParcels", unfollowed := true, recurses := true, apart := false }
def FnExactPackParcelsSaid : Prop := fnExactPackParcelsRow.holds Try.pinned (OpenSpec.ofChange fnExactPackParcelsSpec)

/-- ITS FALSE NEIGHBOUR: 'it returns false'. Refute it at one input. -/
def fnExactPackParcelsWrong : ChangeSpec := { name := "fnExactPackParcels", fn := fun _ => fun
  | [d1, d2, d3] => { results := [.lit (.bool false)], args := [d1, d2, d3] }
  | _ => none }
def FnExactPackParcelsWrongFalsely : Prop := fnExactPackParcelsRow.holds Try.pinned (OpenSpec.ofChange fnExactPackParcelsWrong)

/-- 'laws.FnPackRects': WHATEVER THE INPUT: true; the input reads as it did. -/
def fnPackRectsSpec : ChangeSpec := { name := "fnPackRects", fn := fun _ => fun
  | [d] => { results := [.lit (.bool true)], args := [d] }
  | _ => none }
def fnPackRectsRow : OpenClaim := { program := "ytiajmkppilmjdaa", sum := "1921d034eff111d317323c9ea7ee56409a9b2e1d1dce66b8a5f49900c5b2550d", func := "loop.example/widgetroom/laws.FnPackRects", spec := "fnPackRects", unfollowed := true, recurses := true, apart := false }
def FnPackRectsSaid : Prop := fnPackRectsRow.holds Try.pinned (OpenSpec.ofChange fnPackRectsSpec)

/-- ITS FALSE NEIGHBOUR: 'it returns false'. Refute it at one input. -/
def fnPackRectsWrong : ChangeSpec := { name := "fnPackRects", fn := fun _ => fun
  | [d] => { results := [.lit (.bool false)], args := [d] }
  | _ => none }
def FnPackRectsWrongFalsely : Prop := fnPackRectsRow.holds Try.pinned (OpenSpec.ofChange fnPackRectsWrong)

/-- 'laws.FnPackFits': WHATEVER THE INPUT: true; the input reads as it did. -/
def fnPackFitsSpec : ChangeSpec := { name := "fnPackFits", fn := fun _ => fun
  | [d] => { results := [.lit (.bool true)], args := [d] }
  | _ => none }
def fnPackFitsRow : OpenClaim := { program := "ytiajmkppilmjdaa", sum := "1921d034eff111d317323c9ea7ee56409a9b2e1d1dce66b8a5f49900c5b2550d", func := "loop.example/widgetroom/laws.FnPackFits", spec := "fnPackFits", unfollowed := true, recurses := true, apart := false }
def FnPackFitsSaid : Prop := fnPackFitsRow.holds Try.pinned (OpenSpec.ofChange fnPackFitsSpec)

/-- ITS FALSE NEIGHBOUR: 'it returns false'. Refute it at one input. -/
def fnPackFitsWrong : ChangeSpec := { name := "fnPackFits", fn := fun _ => fun
  | [d] => { results := [.lit (.bool false)], args := [d] }
  | _ => none }
def FnPackFitsWrongFalsely : Prop := fnPackFitsRow.holds Try.pinned (OpenSpec.ofChange fnPackFitsWrong)

/-- 'laws.FnExactPackRects': WHATEVER THE INPUT: true; the input reads as it did. -/
def fnExactPackRectsSpec : ChangeSpec := { name := "fnExactPackRects", fn := fun _ => fun
  | [d1, d2, d3] => { results := [.lit (.bool true)], args := [d1, d2, d3] }
  | _ => none }
def fnExactPackRectsRow : OpenClaim := { program := "ytiajmkppilmjdaa", sum := "1921d034eff111d317323c9ea7ee56409a9b2e1d1dce66b8a5f49900c5b2550d", func := "loop.example/widgetroom/laws.FnExactPackRects", spec := "fnExactPackRects", unfollowed := true, recurses := true, apart := false }
def FnExactPackRectsSaid : Prop := fnExactPackRectsRow.holds Try.pinned (OpenSpec.ofChange fnExactPackRectsSpec)

/-- ITS FALSE NEIGHBOUR: 'it returns false'. Refute it at one input. -/
def fnExactPackRectsWrong : ChangeSpec := { name := "fnExactPackRects", fn := fun _ => fun
  | [d1, d2, d3] => { results := [.lit (.bool false)], args := [d1, d2, d3] }
  | _ => none }
def FnExactPackRectsWrongFalsely : Prop := fnExactPackRectsRow.holds Try.pinned (OpenSpec.ofChange fnExactPackRectsWrong)

/- THE SECOND FORM. 'bulk': how many values and letters a reading holds, each counted each time it is reached (what is shared counts as often as it is met; a slice's spare places count too). A statement '..UptoSaid' is the law's where the arguments, and the package variables that the reading takes, are together of bulk at most 1048576: NARROWER than '..Said'. Prove '..Said' where nothing that the law and all that it calls make is longer than what came in: it says more and counts as full. Else prove '..UptoSaid'. A law counts once. -/
mutual
def uptoBulk {H : Type} : DataW H → Nat
  | .lit (.string bytes) => bytes.length + 1
  | .lit _ => 1
  | .nil => 1
  | .ptr d => uptoBulk d + 1
  | .slice elems spare => uptoBulkAll elems + uptoBulkAll spare + 1
  | .agg parts => uptoBulkAll parts + 1
  | .iface _ d => uptoBulk d + 1
  | .map entries => uptoBulkEntries entries + 1
  | .held _ => 1
def uptoBulkAll {H : Type} : List (DataW H) → Nat
  | [] => 0
  | d :: r => uptoBulk d + uptoBulkAll r
def uptoBulkEntries {H : Type} : List (Lit × DataW H) → Nat
  | [] => 0
  | x :: r => uptoBulkEntry x + uptoBulkEntries r
def uptoBulkEntry {H : Type} : Lit × DataW H → Nat
  | (.string bytes, d) => bytes.length + uptoBulk d + 1
  | (_, d) => uptoBulk d + 1
 end
def uptoSmall : (H : Type) → List (DataW H) → Bool := fun _ ds => decide (uptoBulkAll ds ≤ 1048576)
def OpenSpec.upto (s : _root_.Go.ChangeSpec) : _root_.Go.OpenSpec := { _root_.Go.OpenSpec.ofChange s with cond := some uptoSmall }

/-- 'laws.FnExpandShare', WHERE WHAT IT READS IS OF BULK AT MOST 1048576: true; the input reads as it did. -/
def fnExpandShareUptoRow : OpenClaim := { program := "ytiajmkppilmjdaa", sum := "1921d034eff111d317323c9ea7ee56409a9b2e1d1dce66b8a5f49900c5b2550d", func := "loop.example/widgetroom/laws.FnExpandShare", spec := "fnExpandShare", unfollowed := true, recurses := true, apart := false, narrowed := true }
def FnExpandShareUptoSaid : Prop := fnExpandShareUptoRow.holds Try.pinned (OpenSpec.upto fnExpandShareSpec)

/-- 'laws.FnExactPackLeft', WHERE WHAT IT READS IS OF BULK AT MOST 1048576: true; the input reads as it did. -/
def fnExactPackLeftUptoRow : OpenClaim := { program := "ytiajmkppilmjdaa", sum := "1921d034eff111d317323c9ea7ee56409a9b2e1d1dce66b8a5f49900c5b2550d", func := "loop.example/widgetroom/laws.FnExactPackLeft", spec := "fnExactPackLeft", unfollowed := true, recurses := true, apart := false, narrowed := true }
def FnExactPackLeftUptoSaid : Prop := fnExactPackLeftUptoRow.holds Try.pinned (OpenSpec.upto fnExactPackLeftSpec)

/-- 'laws.FnPackParcelsFirst', WHERE WHAT IT READS IS OF BULK AT MOST 1048576: true; the input reads as it did. -/
def fnPackParcelsFirstUptoRow : OpenClaim := { program := "ytiajmkppilmjdaa", sum := "1921d034eff111d317323c9ea7ee56409a9b2e1d1dce66b8a5f49900c5b2550d", func := "loop.example/widgetroom/laws.FnPackParcelsFirst", spec := "fnPackParcelsFirst", unfollowed := true, recurses := true, apart := false, narrowed := true }
def FnPackParcelsFirstUptoSaid : Prop := fnPackParcelsFirstUptoRow.holds Try.pinned (OpenSpec.upto fnPackParcelsFirstSpec)

/-- 'laws.FnPackLeft', WHERE WHAT IT READS IS OF BULK AT MOST 1048576: true; the input reads as it did. -/
def fnPackLeftUptoRow : OpenClaim := { program := "ytiajmkppilmjdaa", sum := "1921d034eff111d317323c9ea7ee56409a9b2e1d1dce66b8a5f49900c5b2550d", func := "loop.example/widgetroom/laws.FnPackLeft", spec := "fnPackLeft", unfollowed := true, recurses := true, apart := false, narrowed := true }
def FnPackLeftUptoSaid : Prop := fnPackLeftUptoRow.holds Try.pinned (OpenSpec.upto fnPackLeftSpec)

/-- 'laws.FnExactPackFits', WHERE WHAT IT READS IS OF BULK AT MOST 1048576: true; the input reads as it did. -/
def fnExactPackFitsUptoRow : OpenClaim := { program := "ytiajmkppilmjdaa", sum := "1921d034eff111d317323c9ea7ee56409a9b2e1d1dce66b8a5f49900c5b2550d", func := "loop.example/widgetroom/laws.FnExactPackFits", spec := "fnExactPackFits", unfollowed := true, recurses := true, apart := false, narrowed := true }
def FnExactPackFitsUptoSaid : Prop := fnExactPackFitsUptoRow.holds Try.pinned (OpenSpec.upto fnExactPackFitsSpec)

/-- 'laws.FnPackParcels', WHERE WHAT IT READS IS OF BULK AT MOST 1048576: true; the input reads as it did. -/
def fnPackParcelsUptoRow : OpenClaim := { program := "ytiajmkppilmjdaa", sum := "1921d034eff111d317323c9ea7ee56409a9b2e1d1dce66b8a5f49900c5b2550d", func := "loop.example/widgetroom/laws.FnPackParcels", spec := "fnPackParcels", unfollowed := true, recurses := true, apart := false, narrowed := true }
def FnPackParcelsUptoSaid : Prop := fnPackParcelsUptoRow.holds Try.pinned (OpenSpec.upto fnPackParcelsSpec)

/-- 'laws.FnExactPackParcels', WHERE WHAT IT READS IS OF BULK AT MOST 1048576: true; the input reads as it did. -/
def fnExactPackParcelsUptoRow : OpenClaim := { program := "ytiajmkppilmjdaa", sum := "1921d034eff111d317323c9ea7ee56409a9b2e1d1dce66b8a5f49900c5b2550d", func := "loop.example/widgetroom/laws.FnExactPackParcels", spec := "fnExactPackParcels", unfollowed := true, recurses := true, apart := false, narrowed := true }
def FnExactPackParcelsUptoSaid : Prop := fnExactPackParcelsUptoRow.holds Try.pinned (OpenSpec.upto fnExactPackParcelsSpec)

/-- 'laws.FnPackRects', WHERE WHAT IT READS IS OF BULK AT MOST 1048576: true; the input reads as it did. -/
def fnPackRectsUptoRow : OpenClaim := { program := "ytiajmkppilmjdaa", sum := "1921d034eff111d317323c9ea7ee56409a9b2e1d1dce66b8a5f49900c5b2550d", func := "loop.example/widgetroom/laws.FnPackRects", spec := "fnPackRects", unfollowed := true, recurses := true, apart := false, narrowed := true }
def FnPackRectsUptoSaid : Prop := fnPackRectsUptoRow.holds Try.pinned (OpenSpec.upto fnPackRectsSpec)

/-- 'laws.FnPackFits', WHERE WHAT IT READS IS OF BULK AT MOST 1048576: true; the input reads as it did. -/
def fnPackFitsUptoRow : OpenClaim := { program := "ytiajmkppilmjdaa", sum := "1921d034eff111d317323c9ea7ee56409a9b2e1d1dce66b8a5f49900c5b2550d", func := "loop.example/widgetroom/laws.FnPackFits", spec := "fnPackFits", unfollowed := true, recurses := true, apart := false, narrowed := true }
def FnPackFitsUptoSaid : Prop := fnPackFitsUptoRow.holds Try.pinned (OpenSpec.upto fnPackFitsSpec)

/-- 'laws.FnExactPackRects', WHERE WHAT IT READS IS OF BULK AT MOST 1048576: true; the input reads as it did. -/
def fnExactPackRectsUptoRow : OpenClaim := { program := "ytiajmkppilmjdaa", sum := "1921d034eff111d317323c9ea7ee56409a9b2e1d1dce66b8a5f49900c5b2550d", func := "loop.example/widgetroom/laws.FnExactPackRects", spec := "fnExactPackRects", unfollowed := true, recurses := true, apart := false, narrowed := true }
def FnExactPackRectsUptoSaid : Prop := fnExactPackRectsUptoRow.holds Try.pinned (OpenSpec.upto fnExactPackRectsSpec)

end Rows
end Go.Proofs.Ytiajmkppilmjdaa
