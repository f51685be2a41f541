/-
  DERIVED. GIVEN WITH THE SEED: THE CARDS: each row of YtdedmhmomoejkaaDoorRows.lean that lists a variable, with what it lists TIED to the program's text (the seventh form; the later family's looks); each row that meets fmt, with fmt's text TOLD by the authors' own Lean function (tested against real Go, not proved from fmt's source: count such statements apart). THE CARD IS WHAT COUNTS. Prove the row's statement (the work); the ties are given (YtdedmhmomoejkaaDoorTie.lean); close each card by the builder's one call (the guide's Derived/Test/ToyasCard.lean, 'card_holds'). Laid BY PROGRAM, IN A SANDBOX (cutbox-door.mjs). By AI agents, Wed Nov 11 2026. No macro, syntax, notation, axiom, sorry.
-/
import Derived.Test.YtdedmhmomoejkaaDoorRows
import GoSem.ClaimSeven
namespace Go.Proofs.YtdedmhmomoejkaaDoor
namespace Rows

/-- THE TIED CARD OF 'firkinlaw43.GenDraws'. -/
def genDrawsCard : Claim7 := { stood := { row := genDrawsRow, standIns := [], harness := (true, "dd765aea108be68446243c7db3604e35b710f8e1699a688d4a7cb90ec5698e5a"), looks := true }, kinds := [], alts := [], laidByText := true, laidKinds := [.data, .data, .data], laidTests := true, laidLooks := .later }
def GenDrawsCardSaid : Prop := Claim7.holds Tryd.pinned (.plain (OpenSpec.ofChange genDrawsSpec)) genDrawsCard

/-- THE TIED CARD OF 'firkinlaw43.GenParts'. -/
def genPartsCard : Claim7 := { stood := { row := genPartsRow, standIns := [], harness := (true, "dd765aea108be68446243c7db3604e35b710f8e1699a688d4a7cb90ec5698e5a"), looks := true }, kinds := [], alts := [], laidByText := true, laidKinds := [.data, .data, .data], laidTests := true, laidLooks := .later }
def GenPartsCardSaid : Prop := Claim7.holds Tryd.pinned (.plain (OpenSpec.ofChange genPartsSpec)) genPartsCard

/-- THE TIED CARD OF 'firkinlaw43.GenRight'. -/
def genRightCard : Claim7 := { stood := { row := genRightRow, standIns := [], harness := (true, "dd765aea108be68446243c7db3604e35b710f8e1699a688d4a7cb90ec5698e5a"), looks := true }, kinds := [], alts := [], laidByText := true, laidKinds := [.data, .data, .data], laidTests := true, laidLooks := .later }
def GenRightCardSaid : Prop := Claim7.holds Tryd.pinned (.plain (OpenSpec.ofChange genRightSpec)) genRightCard

/-- THE TIED CARD OF 'firkinlaw28.SlotTells'. -/
def slotTellsCard : Claim7 := { stood := { row := slotTellsRow, standIns := [], harness := (true, "dd765aea108be68446243c7db3604e35b710f8e1699a688d4a7cb90ec5698e5a"), looks := true }, kinds := [], alts := [], laidByText := true, laidKinds := [.data, .pinned], laidTests := true, laidLooks := .later }
def SlotTellsCardSaid : Prop := Claim7.holds Tryd.pinned (.plain (OpenSpec.ofChange slotTellsSpec)) slotTellsCard

/-- THE TIED CARD OF 'firkinlaw16.WordAll'. -/
def wordAllCard : Claim7 := { stood := { row := wordAllRow, standIns := [], harness := (true, "dd765aea108be68446243c7db3604e35b710f8e1699a688d4a7cb90ec5698e5a"), looks := true }, kinds := [], alts := [], laidByText := true, laidKinds := [.data, .data, .data, .sentinel, .sentinel], laidTests := true, laidLooks := .later }
def WordAllCardSaid : Prop := Claim7.holds Tryd.pinned (.plain (OpenSpec.ofChange wordAllSpec)) wordAllCard

/-- THE TIED CARD OF 'firkinlaw16.WordJoins'. -/
def wordJoinsCard : Claim7 := { stood := { row := wordJoinsRow, standIns := [], harness := (true, "dd765aea108be68446243c7db3604e35b710f8e1699a688d4a7cb90ec5698e5a"), looks := true }, kinds := [], alts := [], laidByText := true, laidKinds := [.data, .data, .data, .sentinel, .sentinel], laidTests := true, laidLooks := .later }
def WordJoinsCardSaid : Prop := Claim7.holds Tryd.pinned (.plain (OpenSpec.ofChange wordJoinsSpec)) wordJoinsCard

/-- THE SECOND FORM's CARD OF 'firkinlaw43.GenDraws'. -/
def genDrawsUptoCard : Claim7 := { stood := { row := genDrawsUptoRow, standIns := [], harness := (true, "dd765aea108be68446243c7db3604e35b710f8e1699a688d4a7cb90ec5698e5a"), looks := true }, kinds := [], alts := [], laidByText := true, laidKinds := [.data, .data, .data], laidTests := true, laidLooks := .later }
def GenDrawsUptoCardSaid : Prop := Claim7.holds Tryd.pinned (.plain (OpenSpec.upto genDrawsSpec)) genDrawsUptoCard

/-- THE SECOND FORM's CARD OF 'firkinlaw43.GenParts'. -/
def genPartsUptoCard : Claim7 := { stood := { row := genPartsUptoRow, standIns := [], harness := (true, "dd765aea108be68446243c7db3604e35b710f8e1699a688d4a7cb90ec5698e5a"), looks := true }, kinds := [], alts := [], laidByText := true, laidKinds := [.data, .data, .data], laidTests := true, laidLooks := .later }
def GenPartsUptoCardSaid : Prop := Claim7.holds Tryd.pinned (.plain (OpenSpec.upto genPartsSpec)) genPartsUptoCard

/-- THE SECOND FORM's CARD OF 'firkinlaw43.GenRight'. -/
def genRightUptoCard : Claim7 := { stood := { row := genRightUptoRow, standIns := [], harness := (true, "dd765aea108be68446243c7db3604e35b710f8e1699a688d4a7cb90ec5698e5a"), looks := true }, kinds := [], alts := [], laidByText := true, laidKinds := [.data, .data, .data], laidTests := true, laidLooks := .later }
def GenRightUptoCardSaid : Prop := Claim7.holds Tryd.pinned (.plain (OpenSpec.upto genRightSpec)) genRightUptoCard

/-- THE SECOND FORM's CARD OF 'firkinlaw28.SlotTells'. -/
def slotTellsUptoCard : Claim7 := { stood := { row := slotTellsUptoRow, standIns := [], harness := (true, "dd765aea108be68446243c7db3604e35b710f8e1699a688d4a7cb90ec5698e5a"), looks := true }, kinds := [], alts := [], laidByText := true, laidKinds := [.data, .pinned], laidTests := true, laidLooks := .later }
def SlotTellsUptoCardSaid : Prop := Claim7.holds Tryd.pinned (.plain (OpenSpec.upto slotTellsSpec)) slotTellsUptoCard

/-- THE SECOND FORM's CARD OF 'firkinlaw16.WordAll'. -/
def wordAllUptoCard : Claim7 := { stood := { row := wordAllUptoRow, standIns := [], harness := (true, "dd765aea108be68446243c7db3604e35b710f8e1699a688d4a7cb90ec5698e5a"), looks := true }, kinds := [], alts := [], laidByText := true, laidKinds := [.data, .data, .data, .sentinel, .sentinel], laidTests := true, laidLooks := .later }
def WordAllUptoCardSaid : Prop := Claim7.holds Tryd.pinned (.plain (OpenSpec.upto wordAllSpec)) wordAllUptoCard

/-- THE SECOND FORM's CARD OF 'firkinlaw16.WordJoins'. -/
def wordJoinsUptoCard : Claim7 := { stood := { row := wordJoinsUptoRow, standIns := [], harness := (true, "dd765aea108be68446243c7db3604e35b710f8e1699a688d4a7cb90ec5698e5a"), looks := true }, kinds := [], alts := [], laidByText := true, laidKinds := [.data, .data, .data, .sentinel, .sentinel], laidTests := true, laidLooks := .later }
def WordJoinsUptoCardSaid : Prop := Claim7.holds Tryd.pinned (.plain (OpenSpec.upto wordJoinsSpec)) wordJoinsUptoCard
end Rows
end Go.Proofs.YtdedmhmomoejkaaDoor
