import Derived.Test.YthafcbbkjdbomaaDoorW2
import Derived.Test.YthafcbbkjdbomaaDoorW1P
namespace Go.Proofs.YthafcbbkjdbomaaDoor.V
open Go Go.RowKit Go.Proofs.YthafcbbkjdbomaaDoorW.PrintLast
open Go.Proofs
set_option linter.unusedVariables false
set_option linter.unusedSimpArgs false
attribute [local irreducible] awp
set_option maxRecDepth 100000
theorem bsL_cut (s : ByteArray) (i j : Nat) (hj : j ≤ s.size) : bsL (s.extract i j) = ((bsL s).drop i).take (j - i) := by
  simp [bsL, ByteArray.data_extract, Array.toList_extract, List.extract_eq_take_drop]
theorem size_cut (s : ByteArray) (i j : Nat) (hj : j ≤ s.size) : (s.extract i j).size = j - i := by
  rw [ByteArray.size_extract]; omega
theorem ofL_bsL (s : ByteArray) : ofL (bsL s) = s := rfl
theorem cut_ofL (s : ByteArray) (i j : Nat) (hj : j ≤ s.size) : s.extract i j = ofL (((bsL s).drop i).take (j - i)) := by
  rw [← bsL_cut s i j hj]
theorem len_bsL (s : ByteArray) : (bsL s).length = s.size := by simp
theorem isDg_nat (c : UInt8) : isDg c.toNat = digC c := by
  unfold isDg digC
  congr 1 <;> (congr 1; apply propext; omega)
theorem isLt_nat (c : UInt8) : isLt c.toNat = letC c := by
  unfold isLt letC
  congr 1 <;> (congr 1; apply propext; omega)
/-- How many digits a text has behind its first byte. -/
theorem cwd (s : ByteArray) (hs : s.size ≤ 1000) : PC Tryd.prog 55 [A.str s, .one (.fn 57 [])] [] (fun r bx => r = A.int .i64 (runL digC (bsL s)) ∧ bx = []) :=
  c55 57 isDg c57 digC (fun c _ => isDg_nat c) (fun c h => by simp [isDg]; omega) (fun c => low_dig) s hs
theorem cwn (s : ByteArray) (hs : s.size ≤ 1000) : PC Tryd.prog 55 [A.str s, .one (.fn 56 [])] [] (fun r bx => r = A.int .i64 (runL namC (bsL s)) ∧ bx = []) :=
  c55 56 (fun c => isLt c || isDg c || decide (c = 95)) c56 namC (fun c _ => by
    show (isLt c.toNat || isDg c.toNat || decide ((c.toNat : Int) = 95)) = _
    rw [isLt_nat, isDg_nat]
    unfold namC
    congr 1
    congr 1
    apply propext
    omega) (fun c h => by simp [isLt, isDg]; omega) (fun c => low_nam) s hs
theorem parse_rng {l : List UInt8} {v : Int} (h : Lib.parseIntB 64 l = .ok v) : -9223372036854775808 ≤ v ∧ v ≤ 9223372036854775807 := by
  unfold Lib.parseIntB at h
  split at h
  · cases h
  · simp only at h
    split at h
    · cases h
    · cases h
    · split at h
      · cases h
      · split at h
        · cases h
        · rename_i h1 h2
          have h := Lib.NumEnd.ok.inj h
          split at h <;> omega
set_option maxHeartbeats 4000000 in
theorem c58 (s : ByteArray) (c : UInt8) (r0 : List UInt8) (hl : bsL s = c :: r0) (hs : s.size ≤ 400) : PC Tryd.prog 58 [A.str s] [] (fun r bx => bx = [] ∧ r = .tup [(lc (cTk (match valL ((c :: r0).take (runL digC r0 + 1)) with | some v => ⟨2, ⟨#[]⟩, v, 0⟩ | none => tk0)), true), ([xI (match valL ((c :: r0).take (runL digC r0 + 1)) with | some _ => (runL digC r0 + 1 : Nat) | none => 0)], false)]) := by
  have hsz : s.size = r0.length + 1 := by rw [← len_bsL, hl]; rfl
  have hrun := runL_le digC r0
  have hb1 : bsL (s.extract 1 s.size) = r0 := by rw [bsL_cut s 1 _ (Nat.le_refl _), hl]; exact List.take_of_length_le (by simp; omega)
  have hs1 : (s.extract 1 s.size).size ≤ 1000 := by rw [size_cut s 1 _ (Nat.le_refl _)]; omega
  refine enter (rs := [.cell 2 29, .tmp 3]) mx Tryd.func58 Tryd.ntmps58 fun Q0 hQ0 => ?_
  refine sq fun _ _ => ?_
  refine rg (sg ?_)
  refine nx ?_
  refine sq fun _ _ => ?_
  refine rg (sg ?_)
  refine and_assoc.2 ?_
  refine And.intro (by first | assumption | omega | rfl | trivial) ?_
  refine And.intro (by first | assumption | omega | rfl | trivial) ?_
  refine cl [] (sg ?_)
  refine (cwd _ hs1).mono ?_
  rintro r bx ⟨rfl, rfl⟩
  rw [hb1]
  have hw : IntKind.i64.wrap (1 + (runL digC r0 : Int)) = ((runL digC r0 + 1 : Nat) : Int) := by rw [IntKind.wrap_i64]; omega
  have hsp : (s.extract 0 (runL digC r0 + 1)).size ≤ 1000 := by rw [size_cut s 0 _ (by omega)]; omega
  have hbp : bsL (s.extract 0 (runL digC r0 + 1)) = (c :: r0).take (runL digC r0 + 1) := by rw [bsL_cut s 0 _ (by omega), hl]; rfl
  refine sg ?_
  refine nx ?_
  refine sq fun _ _ => ?_
  refine rg (sg ?_)
  refine and_assoc.2 ?_
  refine And.intro (by first | assumption | omega | rfl | trivial) ?_
  refine And.intro (by first | assumption | omega | rfl | trivial) ?_
  refine cl [] (sg ?_)
  simp only [hw]
  refine sg ?_
  refine (c79 _ (by first | assumption | omega | trivial | rfl)).mono ?_
  rintro r bx ⟨rfl, (⟨v, hp, rfl⟩ | ⟨hp, n, rfl⟩)⟩
  · obtain ⟨hv0, hv1⟩ := parse_rng hp
    rw [hbp] at hp
    have hcmp : (ofL (Lib.itoa v) = s.extract 0 (runL digC r0 + 1)) ↔ (Lib.itoa v = (c :: r0).take (runL digC r0 + 1)) := by
      rw [← hbp]
      exact ⟨fun h => by rw [← h], fun h => by rw [h]⟩
    refine sg ?_
    refine nx ?_
    refine sq fun _ _ => ?_
    refine sq fun _ _ => ?_
    refine dr [.take 0, .take 1, .take 2, .take 3, .take 5, .take 6, .take 7, .one 4, .pure 8, .pure 9] [] (sg ?_)
    refine and_assoc.2 ?_
    refine And.intro (by first | assumption | omega | rfl | trivial) ?_
    refine And.intro (by first | assumption | omega | rfl | trivial) ?_
    refine cl [] (sg ?_)
    refine (c29 _ (by first | assumption | omega | trivial | rfl) (by first | assumption | omega | trivial | rfl)).mono ?_
    rintro r bx ⟨rfl, rfl⟩
    refine sg ?_
    refine nx ?_
    refine cb (fun h => ?_) (fun h => ?_)
    · have hval : valL (c :: r0.take (runL digC r0)) = none := by
        unfold valL
        rw [show Lib.parseIntB 64 (c :: r0.take (runL digC r0)) = .ok v from hp]
        exact if_neg (fun e => h (hcmp.2 e))
      refine sq fun _ _ => ?_
      refine rg (sg ?_)
      refine nx ?_
      refine rt (sg ?_)
      refine f2 (g := sg ?_)
      refine ⟨_, _, rfl, rfl, ?_⟩
      refine ax [] ⟨rfl, ?_⟩
      rw [hval]
      rfl
    · have hval : valL (c :: r0.take (runL digC r0)) = some v := by
        unfold valL
        rw [show Lib.parseIntB 64 (c :: r0.take (runL digC r0)) = .ok v from hp]
        exact if_pos (hcmp.1 (Decidable.not_not.1 h))
      refine sk (sg ?_)
      refine nx ?_
      refine sq fun _ _ => ?_
      refine rg (sg ?_)
      refine nx ?_
      refine rt ?_
      refine f2 (g := sg ?_)
      refine ⟨_, _, rfl, rfl, ?_⟩
      refine ax [] ⟨rfl, ?_⟩
      rw [hval]
      rfl
  · have hval : valL (c :: r0.take (runL digC r0)) = none := by
      rw [hbp] at hp
      unfold valL
      split
      · rename_i v hv
        exact absurd hv (hp v)
      · rfl
    refine sg ?_
    refine nx ?_
    refine sq fun _ _ => ?_
    refine sq fun _ _ => ?_
    refine dr [.take 0, .take 1, .take 2, .take 3, .take 5, .take 6, .take 7, .one 4, .pure 8, .pure 9] [] (sg ?_)
    refine nx ?_
    refine ct (hx := ?_)
    refine sq fun _ _ => ?_
    refine rg (sg ?_)
    refine nx ?_
    refine rt (sg ?_)
    refine f2 (g := sg ?_)
    refine ⟨_, _, rfl, rfl, ?_⟩
    refine ax [] ⟨rfl, ?_⟩
    rw [hval]
    rfl

end Go.Proofs.YthafcbbkjdbomaaDoor.V
