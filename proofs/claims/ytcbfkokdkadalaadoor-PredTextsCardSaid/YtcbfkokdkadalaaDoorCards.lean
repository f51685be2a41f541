/-
  DERIVED. GIVEN WITH THE SEED: THE CARDS: each row of YtcbfkokdkadalaaDoorRows.lean that lists a variable, with what it lists TIED to the program's text (the seventh form; the later family's looks); each row that meets fmt, with fmt's text TOLD by the authors' own Lean function (tested against real Go, not proved from fmt's source: count such statements apart). THE CARD IS WHAT COUNTS. Prove the row's statement (the work); the ties are given (YtcbfkokdkadalaaDoorTie.lean); close each card by the builder's one call (the guide's Derived/Test/ToyasCard.lean, 'card_holds'). Laid BY PROGRAM, IN A SANDBOX (cutbox-door.mjs). By AI agents, Wed Nov 11 2026. No macro, syntax, notation, axiom, sorry.
-/
import Derived.Test.YtcbfkokdkadalaaDoorRows
import GoSem.ClaimSeven
namespace Go.Proofs.YtcbfkokdkadalaaDoor
namespace Rows

/-- THE TIED CARD OF 'firkinlaw17.PredTexts'. -/
def predTextsCard : Claim7 := { stood := { row := predTextsRow, standIns := [], harness := (true, "fbbb4bea0c165058b298b570714279520eda2454a3472321b952258c08cb220d"), looks := false }, kinds := [], alts := [], laidByText := true, laidKinds := [.data, .data, .data, .data, .pinned], laidTests := true, laidLooks := .later }
def PredTextsCardSaid : Prop := Claim7.holds Tryd.pinned (.plain (OpenSpec.ofChange predTextsSpec)) predTextsCard

/-- THE SECOND FORM's CARD OF 'firkinlaw17.PredTexts'. -/
def predTextsUptoCard : Claim7 := { stood := { row := predTextsUptoRow, standIns := [], harness := (true, "fbbb4bea0c165058b298b570714279520eda2454a3472321b952258c08cb220d"), looks := false }, kinds := [], alts := [], laidByText := true, laidKinds := [.data, .data, .data, .data, .pinned], laidTests := true, laidLooks := .later }
def PredTextsUptoCardSaid : Prop := Claim7.holds Tryd.pinned (.plain (OpenSpec.upto predTextsSpec)) predTextsUptoCard
end Rows
end Go.Proofs.YtcbfkokdkadalaaDoor
