import Derived.Test.YthinpbnnpelhhaaGreatDoorW2
import Derived.Test.YthinpbnnpelhhaaGreatDoorW1P
namespace Go.Proofs.YthinpbnnpelhhaaGreatDoor.V
open Go Go.RowKit Go.Proofs.YthinpbnnpelhhaaGreatDoorW.PrintLast
open Go.Proofs
set_option linter.unusedVariables false
set_option linter.unusedSimpArgs false
attribute [local irreducible] awp
set_option maxRecDepth 100000
theorem bsL_cut (s : ByteArray) (i j : Nat) (hj : j ≤ s.size) : bsL (s.extract i j) = ((bsL s).drop i).take (j - i) := by
  simp [bsL, ByteArray.data_extract, Array.toList_extract, List.extract_eq_take_drop]
theorem size_cut (s : ByteArray) (i j : Nat) (hj : j ≤ s.size) : (s.extract i j).size = j - i := by
  rw [ByteArray.size_extract]; omega
theorem ofL_bsL (s : ByteArray) : ofL (bsL s) = s := rfl
theorem cut_ofL (s : ByteArray) (i j : Nat) (hj : j ≤ s.size) : s.extract i j = ofL (((bsL s).drop i).take (j - i)) := by
  rw [← bsL_cut s i j hj]
theorem len_bsL (s : ByteArray) : (bsL s).length = s.size := by simp
theorem isDg_nat (c : UInt8) : isDg c.toNat = digC c := by
  unfold isDg digC
  congr 1 <;> (congr 1; apply propext; omega)
theorem isLt_nat (c : UInt8) : isLt c.toNat = letC c := by
  unfold isLt letC
  congr 1 <;> (congr 1; apply propext; omega)
theorem parse_rng {l : List UInt8} {v : Int} (h : Lib.parseIntB 64 l = .ok v) : -9223372036854775808 ≤ v ∧ v ≤ 9223372036854775807 := by
  unfold Lib.parseIntB at h
  split at h
  · cases h
  · simp only at h
    split at h
    · cases h
    · cases h
    · split at h
      · cases h
      · split at h
        · cases h
        · rename_i h1 h2
          have h := Lib.NumEnd.ok.inj h
          split at h <;> omega
end Go.Proofs.YthinpbnnpelhhaaGreatDoor.V
