import Derived.Test.YthafcbbkjdbomaaDoorW2
import Derived.Test.YthafcbbkjdbomaaDoorW1P
namespace Go.Proofs.YthafcbbkjdbomaaDoor.V
open Go Go.RowKit Go.Proofs.YthafcbbkjdbomaaDoorW.PrintLast
open Go.Proofs
set_option linter.unusedVariables false
set_option linter.unusedSimpArgs false
attribute [local irreducible] awp
set_option maxRecDepth 100000
theorem bsL_cut (s : ByteArray) (i j : Nat) (hj : j ≤ s.size) : bsL (s.extract i j) = ((bsL s).drop i).take (j - i) := by
  simp [bsL, ByteArray.data_extract, Array.toList_extract, List.extract_eq_take_drop]
theorem size_cut (s : ByteArray) (i j : Nat) (hj : j ≤ s.size) : (s.extract i j).size = j - i := by
  rw [ByteArray.size_extract]; omega
theorem ofL_bsL (s : ByteArray) : ofL (bsL s) = s := rfl
theorem cut_ofL (s : ByteArray) (i j : Nat) (hj : j ≤ s.size) : s.extract i j = ofL (((bsL s).drop i).take (j - i)) := by
  rw [← bsL_cut s i j hj]
theorem len_bsL (s : ByteArray) : (bsL s).length = s.size := by simp
theorem isDg_nat (c : UInt8) : isDg c.toNat = digC c := by
  unfold isDg digC
  congr 1 <;> (congr 1; apply propext; omega)
theorem isLt_nat (c : UInt8) : isLt c.toNat = letC c := by
  unfold isLt letC
  congr 1 <;> (congr 1; apply propext; omega)
/-- How many digits a text has behind its first byte. -/
theorem cwd (s : ByteArray) (hs : s.size ≤ 1000) : PC Tryd.prog 55 [A.str s, .one (.fn 57 [])] [] (fun r bx => r = A.int .i64 (runL digC (bsL s)) ∧ bx = []) :=
  c55 57 isDg c57 digC (fun c _ => isDg_nat c) (fun c h => by simp [isDg]; omega) (fun c => low_dig) s hs
theorem cwn (s : ByteArray) (hs : s.size ≤ 1000) : PC Tryd.prog 55 [A.str s, .one (.fn 56 [])] [] (fun r bx => r = A.int .i64 (runL namC (bsL s)) ∧ bx = []) :=
  c55 56 (fun c => isLt c || isDg c || decide (c = 95)) c56 namC (fun c _ => by
    show (isLt c.toNat || isDg c.toNat || decide ((c.toNat : Int) = 95)) = _
    rw [isLt_nat, isDg_nat]
    unfold namC
    congr 1
    congr 1
    apply propext
    omega) (fun c h => by simp [isLt, isDg]; omega) (fun c => low_nam) s hs
theorem parse_rng {l : List UInt8} {v : Int} (h : Lib.parseIntB 64 l = .ok v) : -9223372036854775808 ≤ v ∧ v ≤ 9223372036854775807 := by
  unfold Lib.parseIntB at h
  split at h
  · cases h
  · simp only at h
    split at h
    · cases h
    · cases h
    · split at h
      · cases h
      · split at h
        · cases h
        · rename_i h1 h2
          have h := Lib.NumEnd.ok.inj h
          split at h <;> omega
end Go.Proofs.YthafcbbkjdbomaaDoor.V
