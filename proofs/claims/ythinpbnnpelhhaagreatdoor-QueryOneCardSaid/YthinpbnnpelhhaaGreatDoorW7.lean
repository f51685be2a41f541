import Derived.Test.YthinpbnnpelhhaaGreatDoorW6
namespace Go.Proofs.YthinpbnnpelhhaaGreatDoor.V
open Go Go.RowKit Go.Proofs.YthinpbnnpelhhaaGreatDoorW.PrintLast
open Go.Proofs
set_option linter.unusedVariables false
set_option linter.unusedSimpArgs false
attribute [local irreducible] awp
set_option maxRecDepth 100000
theorem chr_get (s : ByteArray) (i : Nat) (h : i < s.size) : (s.data.getD i 0) = s.get! i := by
  have : s.data[i]! = s.data[i]'h := getElem!_pos s.data i h
  simp [ByteArray.get!, this, Array.getD, h]
end Go.Proofs.YthinpbnnpelhhaaGreatDoor.V
