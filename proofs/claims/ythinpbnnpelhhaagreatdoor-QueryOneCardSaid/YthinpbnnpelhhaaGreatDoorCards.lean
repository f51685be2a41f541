/-
  DERIVED. GIVEN WITH THE SEED: THE CARDS: each row of YthinpbnnpelhhaaGreatDoorRows.lean that lists a variable, with what it lists TIED to the program's text (the seventh form; the later family's looks); each row that meets fmt, with fmt's text TOLD by the authors' own Lean function (tested against real Go, not proved from fmt's source: count such statements apart). THE CARD IS WHAT COUNTS. Prove the row's statement (the work); the ties are given (YthinpbnnpelhhaaGreatDoorTie.lean); close each card by the builder's one call (the guide's Derived/Test/ToyasCard.lean, 'card_holds'). Laid BY PROGRAM, IN A SANDBOX (cutbox-door.mjs). By AI agents, Wed Nov 11 2026. No macro, syntax, notation, axiom, sorry.
-/
import Derived.Test.YthinpbnnpelhhaaGreatDoorRows
import GoSem.ClaimSeven
namespace Go.Proofs.YthinpbnnpelhhaaGreatDoor
namespace Rows

/-- THE TIED CARD OF 'firkinlaw18.QueryTexts'. -/
def queryTextsCard : Claim7 := { stood := { row := queryTextsRow, standIns := [], harness := (true, "bd66b6b087162ff1977260f7e4f9fdcf033d834a3d4fe94d88237f1265c2a011"), looks := false }, kinds := [], alts := [], laidByText := true, laidKinds := [.data, .data, .data, .data, .pinned], laidTests := true, laidLooks := .later }
def QueryTextsCardSaid : Prop := Claim7.holds Tryz.pinned (.plain (OpenSpec.ofChange queryTextsSpec)) queryTextsCard

/-- THE TIED CARD OF 'firkinlaw18.QueryOne'. -/
def queryOneCard : Claim7 := { stood := { row := queryOneRow, standIns := [], harness := (true, "bd66b6b087162ff1977260f7e4f9fdcf033d834a3d4fe94d88237f1265c2a011"), looks := false }, kinds := [], alts := [], laidByText := true, laidKinds := [.data, .data, .data, .data, .pinned], laidTests := true, laidLooks := .later }
def QueryOneCardSaid : Prop := Claim7.holds Tryz.pinned (.plain (OpenSpec.ofChange queryOneSpec)) queryOneCard

/-- THE SECOND FORM's CARD OF 'firkinlaw18.QueryTexts'. -/
def queryTextsUptoCard : Claim7 := { stood := { row := queryTextsUptoRow, standIns := [], harness := (true, "bd66b6b087162ff1977260f7e4f9fdcf033d834a3d4fe94d88237f1265c2a011"), looks := false }, kinds := [], alts := [], laidByText := true, laidKinds := [.data, .data, .data, .data, .pinned], laidTests := true, laidLooks := .later }
def QueryTextsUptoCardSaid : Prop := Claim7.holds Tryz.pinned (.plain (OpenSpec.upto queryTextsSpec)) queryTextsUptoCard

/-- THE SECOND FORM's CARD OF 'firkinlaw18.QueryOne'. -/
def queryOneUptoCard : Claim7 := { stood := { row := queryOneUptoRow, standIns := [], harness := (true, "bd66b6b087162ff1977260f7e4f9fdcf033d834a3d4fe94d88237f1265c2a011"), looks := false }, kinds := [], alts := [], laidByText := true, laidKinds := [.data, .data, .data, .data, .pinned], laidTests := true, laidLooks := .later }
def QueryOneUptoCardSaid : Prop := Claim7.holds Tryz.pinned (.plain (OpenSpec.upto queryOneSpec)) queryOneUptoCard
end Rows
end Go.Proofs.YthinpbnnpelhhaaGreatDoor
