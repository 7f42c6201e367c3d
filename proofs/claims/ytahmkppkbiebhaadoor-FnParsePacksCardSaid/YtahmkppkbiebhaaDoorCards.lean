/-
  DERIVED. GIVEN WITH THE SEED: THE CARDS: each row of YtahmkppkbiebhaaDoorRows.lean that lists a variable, with what it lists TIED to the program's text (the seventh form; the later family's looks); each row that meets fmt, with fmt's text TOLD by the authors' own Lean function (tested against real Go, not proved from fmt's source: count such statements apart). THE CARD IS WHAT COUNTS. Prove the row's statement (the work); the ties are given (YtahmkppkbiebhaaDoorTie.lean); close each card by the builder's one call (the guide's Derived/Test/ToyasCard.lean, 'card_holds'). Laid BY PROGRAM, IN A SANDBOX (cutbox-door.mjs). By AI agents, Wed Nov 11 2026. No macro, syntax, notation, axiom, sorry.
-/
import Derived.Test.YtahmkppkbiebhaaDoorRows
import GoSem.ClaimSeven
namespace Go.Proofs.YtahmkppkbiebhaaDoor
namespace Rows

/-- THE TIED CARD OF 'laws.FnPackText'. -/
def fnPackTextCard : Claim7 := { stood := { row := fnPackTextRow, standIns := [], harness := (true, "b67f20ff246b9b6b42059321c38dfcd34d0a808fc1352166d6ef28274147c1cd"), looks := true }, kinds := [], alts := [], laidByText := true, laidKinds := [.data, .data, .data, .data, .sentinel, .sentinel, .pinned], laidTests := true, laidLooks := .later }
def FnPackTextCardSaid : Prop := Claim7.holds Tryd.pinned (.plain (OpenSpec.ofChange fnPackTextSpec)) fnPackTextCard

/-- THE TIED CARD OF 'laws.FnExactParsePack'. -/
def fnExactParsePackCard : Claim7 := { stood := { row := fnExactParsePackRow, standIns := [], harness := (true, "b67f20ff246b9b6b42059321c38dfcd34d0a808fc1352166d6ef28274147c1cd"), looks := true }, kinds := [], alts := [], laidByText := true, laidKinds := [.data, .data, .data, .data, .sentinel, .sentinel, .pinned], laidTests := true, laidLooks := .later }
def FnExactParsePackCardSaid : Prop := Claim7.holds Tryd.pinned (.plain (OpenSpec.ofChange fnExactParsePackSpec)) fnExactParsePackCard

/-- THE TIED CARD OF 'laws.FnParsePack'. -/
def fnParsePackCard : Claim7 := { stood := { row := fnParsePackRow, standIns := [], harness := (true, "b67f20ff246b9b6b42059321c38dfcd34d0a808fc1352166d6ef28274147c1cd"), looks := true }, kinds := [], alts := [], laidByText := true, laidKinds := [.data, .data, .data, .data, .sentinel, .sentinel, .pinned], laidTests := true, laidLooks := .later }
def FnParsePackCardSaid : Prop := Claim7.holds Tryd.pinned (.plain (OpenSpec.ofChange fnParsePackSpec)) fnParsePackCard

/-- THE TIED CARD OF 'laws.FnParsePacks'. -/
def fnParsePacksCard : Claim7 := { stood := { row := fnParsePacksRow, standIns := [], harness := (true, "b67f20ff246b9b6b42059321c38dfcd34d0a808fc1352166d6ef28274147c1cd"), looks := true }, kinds := [], alts := [], laidByText := true, laidKinds := [.data, .data, .data, .data, .sentinel, .sentinel, .pinned], laidTests := true, laidLooks := .later }
def FnParsePacksCardSaid : Prop := Claim7.holds Tryd.pinned (.plain (OpenSpec.ofChange fnParsePacksSpec)) fnParsePacksCard

/-- THE TIED CARD OF 'laws.FnExactParsePacks'. -/
def fnExactParsePacksCard : Claim7 := { stood := { row := fnExactParsePacksRow, standIns := [], harness := (true, "b67f20ff246b9b6b42059321c38dfcd34d0a808fc1352166d6ef28274147c1cd"), looks := true }, kinds := [], alts := [], laidByText := true, laidKinds := [.data, .data, .data, .data, .sentinel, .sentinel, .pinned], laidTests := true, laidLooks := .later }
def FnExactParsePacksCardSaid : Prop := Claim7.holds Tryd.pinned (.plain (OpenSpec.ofChange fnExactParsePacksSpec)) fnExactParsePacksCard

/-- THE SECOND FORM's CARD OF 'laws.FnPackText'. -/
def fnPackTextUptoCard : Claim7 := { stood := { row := fnPackTextUptoRow, standIns := [], harness := (true, "b67f20ff246b9b6b42059321c38dfcd34d0a808fc1352166d6ef28274147c1cd"), looks := true }, kinds := [], alts := [], laidByText := true, laidKinds := [.data, .data, .data, .data, .sentinel, .sentinel, .pinned], laidTests := true, laidLooks := .later }
def FnPackTextUptoCardSaid : Prop := Claim7.holds Tryd.pinned (.plain (OpenSpec.upto fnPackTextSpec)) fnPackTextUptoCard

/-- THE SECOND FORM's CARD OF 'laws.FnExactParsePack'. -/
def fnExactParsePackUptoCard : Claim7 := { stood := { row := fnExactParsePackUptoRow, standIns := [], harness := (true, "b67f20ff246b9b6b42059321c38dfcd34d0a808fc1352166d6ef28274147c1cd"), looks := true }, kinds := [], alts := [], laidByText := true, laidKinds := [.data, .data, .data, .data, .sentinel, .sentinel, .pinned], laidTests := true, laidLooks := .later }
def FnExactParsePackUptoCardSaid : Prop := Claim7.holds Tryd.pinned (.plain (OpenSpec.upto fnExactParsePackSpec)) fnExactParsePackUptoCard

/-- THE SECOND FORM's CARD OF 'laws.FnParsePack'. -/
def fnParsePackUptoCard : Claim7 := { stood := { row := fnParsePackUptoRow, standIns := [], harness := (true, "b67f20ff246b9b6b42059321c38dfcd34d0a808fc1352166d6ef28274147c1cd"), looks := true }, kinds := [], alts := [], laidByText := true, laidKinds := [.data, .data, .data, .data, .sentinel, .sentinel, .pinned], laidTests := true, laidLooks := .later }
def FnParsePackUptoCardSaid : Prop := Claim7.holds Tryd.pinned (.plain (OpenSpec.upto fnParsePackSpec)) fnParsePackUptoCard

/-- THE SECOND FORM's CARD OF 'laws.FnParsePacks'. -/
def fnParsePacksUptoCard : Claim7 := { stood := { row := fnParsePacksUptoRow, standIns := [], harness := (true, "b67f20ff246b9b6b42059321c38dfcd34d0a808fc1352166d6ef28274147c1cd"), looks := true }, kinds := [], alts := [], laidByText := true, laidKinds := [.data, .data, .data, .data, .sentinel, .sentinel, .pinned], laidTests := true, laidLooks := .later }
def FnParsePacksUptoCardSaid : Prop := Claim7.holds Tryd.pinned (.plain (OpenSpec.upto fnParsePacksSpec)) fnParsePacksUptoCard

/-- THE SECOND FORM's CARD OF 'laws.FnExactParsePacks'. -/
def fnExactParsePacksUptoCard : Claim7 := { stood := { row := fnExactParsePacksUptoRow, standIns := [], harness := (true, "b67f20ff246b9b6b42059321c38dfcd34d0a808fc1352166d6ef28274147c1cd"), looks := true }, kinds := [], alts := [], laidByText := true, laidKinds := [.data, .data, .data, .data, .sentinel, .sentinel, .pinned], laidTests := true, laidLooks := .later }
def FnExactParsePacksUptoCardSaid : Prop := Claim7.holds Tryd.pinned (.plain (OpenSpec.upto fnExactParsePacksSpec)) fnExactParsePacksUptoCard
end Rows
end Go.Proofs.YtahmkppkbiebhaaDoor
