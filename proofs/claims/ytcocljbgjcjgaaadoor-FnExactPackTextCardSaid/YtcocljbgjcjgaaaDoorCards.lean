/-
  DERIVED. GIVEN WITH THE SEED: THE CARDS: each row of YtcocljbgjcjgaaaDoorRows.lean that lists a variable, with what it lists TIED to the program's text (the seventh form; the later family's looks); each row that meets fmt, with fmt's text TOLD by the authors' own Lean function (tested against real Go, not proved from fmt's source: count such statements apart). THE CARD IS WHAT COUNTS. Prove the row's statement (the work); the ties are given (YtcocljbgjcjgaaaDoorTie.lean); close each card by the builder's one call (the guide's Derived/Test/ToyasCard.lean, 'card_holds'). Laid BY PROGRAM, IN A SANDBOX (cutbox-door.mjs). By AI agents, Wed Nov 11 2026. No macro, syntax, notation, axiom, sorry.
-/
import Derived.Test.YtcocljbgjcjgaaaDoorRows
import GoSem.ClaimSeven
namespace Go.Proofs.YtcocljbgjcjgaaaDoor
namespace Rows

/-- THE TIED CARD OF 'laws.FnExactRectText'. -/
def fnExactRectTextCard : Claim7 := { stood := { row := fnExactRectTextRow, standIns := [], harness := (true, "335d17209dfac2e58bbe4d77cf3a48c9bf39c44b876687b50ccef34de833d297"), looks := false }, kinds := [], alts := [], laidByText := true, laidKinds := [.data, .data, .data], laidTests := true, laidLooks := .later }
def FnExactRectTextCardSaid : Prop := Claim7.holds Tryd.pinned (.plain (OpenSpec.ofChange fnExactRectTextSpec)) fnExactRectTextCard

/-- THE TIED CARD OF 'laws.FnRectText'. -/
def fnRectTextCard : Claim7 := { stood := { row := fnRectTextRow, standIns := [], harness := (true, "335d17209dfac2e58bbe4d77cf3a48c9bf39c44b876687b50ccef34de833d297"), looks := false }, kinds := [], alts := [], laidByText := true, laidKinds := [.data, .data, .data], laidTests := true, laidLooks := .later }
def FnRectTextCardSaid : Prop := Claim7.holds Tryd.pinned (.plain (OpenSpec.ofChange fnRectTextSpec)) fnRectTextCard

/-- THE TIED CARD OF 'laws.FnExactPackText'. -/
def fnExactPackTextCard : Claim7 := { stood := { row := fnExactPackTextRow, standIns := [], harness := (true, "335d17209dfac2e58bbe4d77cf3a48c9bf39c44b876687b50ccef34de833d297"), looks := false }, kinds := [], alts := [], laidByText := true, laidKinds := [.data, .data, .data], laidTests := true, laidLooks := .later }
def FnExactPackTextCardSaid : Prop := Claim7.holds Tryd.pinned (.plain (OpenSpec.ofChange fnExactPackTextSpec)) fnExactPackTextCard

/-- THE SECOND FORM's CARD OF 'laws.FnExactRectText'. -/
def fnExactRectTextUptoCard : Claim7 := { stood := { row := fnExactRectTextUptoRow, standIns := [], harness := (true, "335d17209dfac2e58bbe4d77cf3a48c9bf39c44b876687b50ccef34de833d297"), looks := false }, kinds := [], alts := [], laidByText := true, laidKinds := [.data, .data, .data], laidTests := true, laidLooks := .later }
def FnExactRectTextUptoCardSaid : Prop := Claim7.holds Tryd.pinned (.plain (OpenSpec.upto fnExactRectTextSpec)) fnExactRectTextUptoCard

/-- THE SECOND FORM's CARD OF 'laws.FnRectText'. -/
def fnRectTextUptoCard : Claim7 := { stood := { row := fnRectTextUptoRow, standIns := [], harness := (true, "335d17209dfac2e58bbe4d77cf3a48c9bf39c44b876687b50ccef34de833d297"), looks := false }, kinds := [], alts := [], laidByText := true, laidKinds := [.data, .data, .data], laidTests := true, laidLooks := .later }
def FnRectTextUptoCardSaid : Prop := Claim7.holds Tryd.pinned (.plain (OpenSpec.upto fnRectTextSpec)) fnRectTextUptoCard

/-- THE SECOND FORM's CARD OF 'laws.FnExactPackText'. -/
def fnExactPackTextUptoCard : Claim7 := { stood := { row := fnExactPackTextUptoRow, standIns := [], harness := (true, "335d17209dfac2e58bbe4d77cf3a48c9bf39c44b876687b50ccef34de833d297"), looks := false }, kinds := [], alts := [], laidByText := true, laidKinds := [.data, .data, .data], laidTests := true, laidLooks := .later }
def FnExactPackTextUptoCardSaid : Prop := Claim7.holds Tryd.pinned (.plain (OpenSpec.upto fnExactPackTextSpec)) fnExactPackTextUptoCard
end Rows
end Go.Proofs.YtcocljbgjcjgaaaDoor
