/-
  DERIVED. GIVEN WITH THE SEED: THE CARDS: each row of YthafcbbkjdbomaaDoorRows.lean that lists a variable, with what it lists TIED to the program's text (the seventh form; the later family's looks); each row that meets fmt, with fmt's text TOLD by the authors' own Lean function (tested against real Go, not proved from fmt's source: count such statements apart). THE CARD IS WHAT COUNTS. Prove the row's statement (the work); the ties are given (YthafcbbkjdbomaaDoorTie.lean); close each card by the builder's one call (the guide's Derived/Test/ToyasCard.lean, 'card_holds'). Laid BY PROGRAM, IN A SANDBOX (cutbox-door.mjs). By AI agents, Wed Nov 11 2026. No macro, syntax, notation, axiom, sorry.
-/
import Derived.Test.YthafcbbkjdbomaaDoorRows
import GoSem.ClaimSeven
namespace Go.Proofs.YthafcbbkjdbomaaDoor
namespace Rows

/-- THE TIED CARD OF 'firkinlaw16.WordJoins'. -/
def wordJoinsCard : Claim7 := { stood := { row := wordJoinsRow, standIns := [], harness := (true, "ef0624f603a2a1a8a5829bb336d2f7617a5d47f0a7c55a91e6a86ee3f243a27e"), looks := true }, kinds := [], alts := [], laidByText := true, laidKinds := [.data, .data, .data, .sentinel, .sentinel], laidTests := true, laidLooks := .later }
def WordJoinsCardSaid : Prop := Claim7.holds Tryd.pinned (.plain (OpenSpec.ofChange wordJoinsSpec)) wordJoinsCard

/-- THE TIED CARD OF 'firkinlaw17.PredOne'. -/
def predOneCard : Claim7 := { stood := { row := predOneRow, standIns := [], harness := (true, "ef0624f603a2a1a8a5829bb336d2f7617a5d47f0a7c55a91e6a86ee3f243a27e"), looks := true }, kinds := [], alts := [], laidByText := true, laidKinds := [.data, .data, .data, .data, .pinned], laidTests := true, laidLooks := .later }
def PredOneCardSaid : Prop := Claim7.holds Tryd.pinned (.plain (OpenSpec.ofChange predOneSpec)) predOneCard

/-- THE TIED CARD OF 'firkinlaw17.PredTexts'. -/
def predTextsCard : Claim7 := { stood := { row := predTextsRow, standIns := [], harness := (true, "ef0624f603a2a1a8a5829bb336d2f7617a5d47f0a7c55a91e6a86ee3f243a27e"), looks := true }, kinds := [], alts := [], laidByText := true, laidKinds := [.data, .data, .data, .data, .pinned], laidTests := true, laidLooks := .later }
def PredTextsCardSaid : Prop := Claim7.holds Tryd.pinned (.plain (OpenSpec.ofChange predTextsSpec)) predTextsCard

/-- THE TIED CARD OF 'firkinlaw17.PredMay'. -/
def predMayCard : Claim7 := { stood := { row := predMayRow, standIns := [], harness := (true, "ef0624f603a2a1a8a5829bb336d2f7617a5d47f0a7c55a91e6a86ee3f243a27e"), looks := true }, kinds := [], alts := [], laidByText := true, laidKinds := [.data, .data, .data, .data, .pinned], laidTests := true, laidLooks := .later }
def PredMayCardSaid : Prop := Claim7.holds Tryd.pinned (.plain (OpenSpec.ofChange predMaySpec)) predMayCard

/-- THE TIED CARD OF 'firkinlaw16.WordBack'. -/
def wordBackCard : Claim7 := { stood := { row := wordBackRow, standIns := [], harness := (true, "ef0624f603a2a1a8a5829bb336d2f7617a5d47f0a7c55a91e6a86ee3f243a27e"), looks := true }, kinds := [], alts := [], laidByText := true, laidKinds := [.data, .data, .data, .data, .sentinel, .sentinel, .pinned], laidTests := true, laidLooks := .later }
def WordBackCardSaid : Prop := Claim7.holds Tryd.pinned (.plain (OpenSpec.ofChange wordBackSpec)) wordBackCard

/-- THE SECOND FORM's CARD OF 'firkinlaw16.WordJoins'. -/
def wordJoinsUptoCard : Claim7 := { stood := { row := wordJoinsUptoRow, standIns := [], harness := (true, "ef0624f603a2a1a8a5829bb336d2f7617a5d47f0a7c55a91e6a86ee3f243a27e"), looks := true }, kinds := [], alts := [], laidByText := true, laidKinds := [.data, .data, .data, .sentinel, .sentinel], laidTests := true, laidLooks := .later }
def WordJoinsUptoCardSaid : Prop := Claim7.holds Tryd.pinned (.plain (OpenSpec.upto wordJoinsSpec)) wordJoinsUptoCard

/-- THE SECOND FORM's CARD OF 'firkinlaw17.PredOne'. -/
def predOneUptoCard : Claim7 := { stood := { row := predOneUptoRow, standIns := [], harness := (true, "ef0624f603a2a1a8a5829bb336d2f7617a5d47f0a7c55a91e6a86ee3f243a27e"), looks := true }, kinds := [], alts := [], laidByText := true, laidKinds := [.data, .data, .data, .data, .pinned], laidTests := true, laidLooks := .later }
def PredOneUptoCardSaid : Prop := Claim7.holds Tryd.pinned (.plain (OpenSpec.upto predOneSpec)) predOneUptoCard

/-- THE SECOND FORM's CARD OF 'firkinlaw17.PredTexts'. -/
def predTextsUptoCard : Claim7 := { stood := { row := predTextsUptoRow, standIns := [], harness := (true, "ef0624f603a2a1a8a5829bb336d2f7617a5d47f0a7c55a91e6a86ee3f243a27e"), looks := true }, kinds := [], alts := [], laidByText := true, laidKinds := [.data, .data, .data, .data, .pinned], laidTests := true, laidLooks := .later }
def PredTextsUptoCardSaid : Prop := Claim7.holds Tryd.pinned (.plain (OpenSpec.upto predTextsSpec)) predTextsUptoCard

/-- THE SECOND FORM's CARD OF 'firkinlaw17.PredMay'. -/
def predMayUptoCard : Claim7 := { stood := { row := predMayUptoRow, standIns := [], harness := (true, "ef0624f603a2a1a8a5829bb336d2f7617a5d47f0a7c55a91e6a86ee3f243a27e"), looks := true }, kinds := [], alts := [], laidByText := true, laidKinds := [.data, .data, .data, .data, .pinned], laidTests := true, laidLooks := .later }
def PredMayUptoCardSaid : Prop := Claim7.holds Tryd.pinned (.plain (OpenSpec.upto predMaySpec)) predMayUptoCard

/-- THE SECOND FORM's CARD OF 'firkinlaw16.WordBack'. -/
def wordBackUptoCard : Claim7 := { stood := { row := wordBackUptoRow, standIns := [], harness := (true, "ef0624f603a2a1a8a5829bb336d2f7617a5d47f0a7c55a91e6a86ee3f243a27e"), looks := true }, kinds := [], alts := [], laidByText := true, laidKinds := [.data, .data, .data, .data, .sentinel, .sentinel, .pinned], laidTests := true, laidLooks := .later }
def WordBackUptoCardSaid : Prop := Claim7.holds Tryd.pinned (.plain (OpenSpec.upto wordBackSpec)) wordBackUptoCard
end Rows
end Go.Proofs.YthafcbbkjdbomaaDoor
