import Derived.Test.YthinpbnnpelhhaaGreatDoorS2
import Derived.Lib.Bytealg
import Derived.Lib.Strings
namespace Go.Proofs.YthinpbnnpelhhaaGreatDoor.V
open Go Go.RowKit Go.Proofs.YthinpbnnpelhhaaGreatDoorW.PrintLast
open Go.Proofs
set_option linter.unusedVariables false
set_option linter.unusedSimpArgs false
attribute [local irreducible] awp
/-! What stands behind a quote, by the places of quotes. -/
theorem quot_ne {c : UInt8} {r : List UInt8} (h : c.toNat ≠ 39) : quotL (c :: r) = (quotL r).map fun x => (c :: x.1, x.2 + 1) := by
  rw [quotL.eq_def]; exact if_neg h
theorem quot_idx : ∀ l : List UInt8, (Lib.indexByte l 39 < 0 → quotL l = none) ∧ (∀ i : Nat, Lib.indexByte l 39 = i → i < l.length ∧ quotL l = if Lib.hasPrefix (l.drop (i + 1)) [39] = true then (quotL (l.drop (i + 2))).map (fun x => (l.take i ++ 39 :: x.1, x.2 + (i + 2))) else some (l.take i, i + 1))
  | [] => ⟨fun _ => rfl, fun i h => by simp [Lib.indexByte] at h⟩
  | c :: r => by
    obtain ⟨h1, h2⟩ := quot_idx r
    have hge := Lib.indexByte_ge r 39
    unfold Lib.indexByte
    by_cases hc : c = 39
    · subst hc
      simp only [beq_self_eq_true, if_true]
      refine ⟨fun h => absurd h (by omega), fun i hi => ?_⟩
      obtain rfl : i = 0 := by omega
      refine ⟨by simp, ?_⟩
      rw [quotL.eq_def]
      simp only [show (39 : UInt8).toNat = 39 from rfl, if_true, List.drop_succ_cons, List.drop_zero, List.take_zero, List.nil_append]
      cases r with
      | nil => simp [Lib.hasPrefix]
      | cons d q =>
        by_cases hd : d = 39
        · subst hd
          simp [Lib.hasPrefix]
        · have hd2 : ¬ d.toNat = 39 := fun h => hd (UInt8.toNat_inj.1 h)
          simp [Lib.hasPrefix, hd2, Ne.symm hd]
    · have hc2 : c.toNat ≠ 39 := fun h => hc (UInt8.toNat_inj.1 h)
      have e : (c == 39) = false := by simpa using hc
      rw [quot_ne hc2, e]
      simp only [Bool.false_eq_true, if_false]
      by_cases hr : Lib.indexByte r 39 = -1
      · simp only [hr, beq_self_eq_true, if_true]
        refine ⟨fun _ => by rw [h1 (by omega)]; rfl, fun i hi => by omega⟩
      · have e2 : (Lib.indexByte r 39 == -1) = false := by simpa using hr
        simp only [e2, Bool.false_eq_true, if_false]
        refine ⟨fun h => by omega, fun i hi => ?_⟩
        obtain ⟨j, rfl⟩ : ∃ j, i = j + 1 := ⟨i - 1, by omega⟩
        obtain ⟨h3, h4⟩ := h2 j (by omega)
        refine ⟨by simp; omega, ?_⟩
        rw [h4]
        simp only [List.drop_succ_cons, List.take_succ_cons]
        split
        · cases quotL (List.drop (j + 2) r) with
          | none => rfl
          | some x => simp; omega
        · rfl

end Go.Proofs.YthinpbnnpelhhaaGreatDoor.V
