import Derived.Test.YthinpbnnpelhhaaGreatDoorW8
namespace Go.Proofs.YthinpbnnpelhhaaGreatDoor.V
open Go Go.RowKit Go.Proofs.YthinpbnnpelhhaaGreatDoorW.PrintLast
open Go.Proofs
set_option linter.unusedVariables false
set_option linter.unusedSimpArgs false
attribute [local irreducible] awp
set_option maxRecDepth 100000
def twoT : List ByteArray := [⟨#[60, 62]⟩, ⟨#[60, 61]⟩, ⟨#[62, 61]⟩]
theorem mk2 (c d : UInt8) (i : Nat) (hi : i < twoT.length) (h : ofL [c, d] = twoT[i]) : mark2 c d = true := by
  have h3 : i < 3 := hi
  rcases (by omega : i = 0 ∨ i = 1 ∨ i = 2) with rfl | rfl | rfl
  · have h := congrArg bsL h
    injection h with h1 h2
    injection h2 with h2
    subst h1 h2; rfl
  · have h := congrArg bsL h
    injection h with h1 h2
    injection h2 with h2
    subst h1 h2; rfl
  · have h := congrArg bsL h
    injection h with h1 h2
    injection h2 with h2
    subst h1 h2; rfl
theorem mk2n (c d : UInt8) (h : ∀ (j : Nat) (hj : j < twoT.length), ofL [c, d] ≠ twoT[j]) : mark2 c d = false := by
  cases hm : mark2 c d with
  | false => rfl
  | true =>
    exfalso
    simp only [mark2, Bool.or_eq_true, Bool.and_eq_true, decide_eq_true_eq] at hm
    have e : ∀ a b : UInt8, c.toNat = a.toNat → d.toNat = b.toNat → ofL [c, d] = ofL [a, b] := fun a b h1 h2 => by rw [UInt8.toNat_inj.1 h1, UInt8.toNat_inj.1 h2]
    rcases hm with ⟨h1, h2 | h2⟩ | ⟨h1, h2⟩
    · exact h 0 (by decide) (e 60 62 h1 h2)
    · exact h 1 (by decide) (e 60 61 h1 h2)
    · exact h 2 (by decide) (e 62 61 h1 h2)
def oneT : ByteArray := ⟨#[44, 40, 41, 42, 61, 60, 62]⟩
theorem mk1 (c : UInt8) (i : Nat) (hi : i < 7) (h : (c.toNat : Int) = ((oneT.data.getD i 0).toNat : Int)) : mark1 c = true := by
  rcases (by omega : i = 0 ∨ i = 1 ∨ i = 2 ∨ i = 3 ∨ i = 4 ∨ i = 5 ∨ i = 6) with rfl | rfl | rfl | rfl | rfl | rfl | rfl <;> (simp [oneT] at h; simp [mark1]; omega)
theorem mk1n (c : UInt8) (h : ∀ j : Nat, j < 7 → (c.toNat : Int) ≠ ((oneT.data.getD j 0).toNat : Int)) : mark1 c = false := by
  have h0 := h 0 (by decide); have h1 := h 1 (by decide); have h2 := h 2 (by decide); have h3 := h 3 (by decide); have h4 := h 4 (by decide); have h5 := h 5 (by decide); have h6 := h 6 (by decide)
  simp [oneT] at h0 h1 h2 h3 h4 h5 h6
  simp [mark1]
  omega
theorem markL_no {c : UInt8} {r : List UInt8} (h : ∀ d q, r = d :: q → mark2 c d = false) : markL (c :: r) = if mark1 c then 1 else 0 := by
  cases r with
  | nil => rfl
  | cons d q => simp [markL, h d q rfl]
end Go.Proofs.YthinpbnnpelhhaaGreatDoor.V
