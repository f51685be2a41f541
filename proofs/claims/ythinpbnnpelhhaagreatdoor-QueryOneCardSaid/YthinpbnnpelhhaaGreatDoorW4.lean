import Derived.Test.YthinpbnnpelhhaaGreatDoorW3
namespace Go.Proofs.YthinpbnnpelhhaaGreatDoor.V
open Go Go.RowKit Go.Proofs.YthinpbnnpelhhaaGreatDoorW.PrintLast
open Go.Proofs
set_option linter.unusedVariables false
set_option linter.unusedSimpArgs false
attribute [local irreducible] awp
set_option maxRecDepth 100000
/-! Marks. -/
def marksT : List ByteArray := [⟨#[60, 62]⟩, ⟨#[60, 61]⟩, ⟨#[62, 61]⟩, ⟨#[44]⟩, ⟨#[40]⟩, ⟨#[41]⟩, ⟨#[42]⟩, ⟨#[61]⟩, ⟨#[60]⟩, ⟨#[62]⟩]
def cSx (x : ByteArray) : List C := [.v (.string x)]
theorem ml_Sx (l : List ByteArray) {i : Nat} (h : i < l.length) : (l.map fun x => lc (cSx x)).getD i [] = [xS l[i]] := by
  rw [List.getD_eq_getElem?_getD, List.getElem?_map, List.getElem?_eq_getElem h]
  rfl
theorem u8 (a c : UInt8) : (a == c) = decide (c.toNat = a.toNat) := by
  rw [Bool.eq_iff_iff]
  simp only [beq_iff_eq, decide_eq_true_eq]
  exact ⟨fun h => by rw [h], fun h => (UInt8.toNat_inj.1 h).symm⟩
theorem pre1 (l : List UInt8) (a : UInt8) : Lib.hasPrefix l [a] = match l with | [] => false | c :: _ => decide (c.toNat = a.toNat) := by
  cases l with
  | nil => rfl
  | cons c r => simp [Lib.hasPrefix, List.isPrefixOf, u8]
theorem pre2 (l : List UInt8) (a b : UInt8) : Lib.hasPrefix l [a, b] = match l with | c :: d :: _ => decide (c.toNat = a.toNat) && decide (d.toNat = b.toNat) | _ => false := by
  cases l with
  | nil => rfl
  | cons c r => cases r with
    | nil => simp [Lib.hasPrefix, List.isPrefixOf]
    | cons d q => simp [Lib.hasPrefix, List.isPrefixOf, u8]
/-- The first mark that a text begins with. -/
theorem mark_first (l : List UInt8) (i : Nat) (hi : i < marksT.length) (hno : ∀ (j : Nat) (h : j < marksT.length), j < i → Lib.hasPrefix l (bsL marksT[j]) = false) (hy : Lib.hasPrefix l (bsL marksT[i]) = true) : markL l = marksT[i].size ∧ l.take (markL l) = bsL marksT[i] := by
  have h10 : i < 10 := hi
  have n0 := fun h => hno 0 (by decide) h
  have n1 := fun h => hno 1 (by decide) h
  have n2 := fun h => hno 2 (by decide) h
  have n3 := fun h => hno 3 (by decide) h
  clear hno
  cases l with
  | nil =>
    exfalso
    rcases (by omega : i = 0 ∨ i = 1 ∨ i = 2 ∨ i = 3 ∨ i = 4 ∨ i = 5 ∨ i = 6 ∨ i = 7 ∨ i = 8 ∨ i = 9) with rfl | rfl | rfl | rfl | rfl | rfl | rfl | rfl | rfl | rfl <;> cases hy
  | cons c r =>
    have one : ∀ a : UInt8, mark1 a = true → c.toNat = a.toNat → (∀ d q, r = d :: q → mark2 c d = false) → markL (c :: r) = 1 ∧ (c :: r).take 1 = [a] := by
      intro a ha hc h2
      have e : c = a := UInt8.toNat_inj.1 hc
      subst e
      refine ⟨?_, rfl⟩
      cases r with
      | nil => simp [markL, ha]
      | cons d q => simp [markL, ha, h2 d q rfl]
    have two : (∀ h : 0 < i, True) → (0 < i → 1 < i → 2 < i → ∀ d q, r = d :: q → mark2 c d = false) := by
      intro _ h0 h1 h2 d q hr
      subst hr
      have n0 := n0 h0
      have n1 := n1 h1
      have n2 := n2 h2
      rw [show bsL marksT[0] = [60, 62] from rfl, pre2] at n0
      rw [show bsL marksT[1] = [60, 61] from rfl, pre2] at n1
      rw [show bsL marksT[2] = [62, 61] from rfl, pre2] at n2
      simp at n0 n1 n2
      simp [mark2]
      omega
    rcases (by omega : i = 0 ∨ i = 1 ∨ i = 2 ∨ i = 3 ∨ i = 4 ∨ i = 5 ∨ i = 6 ∨ i = 7 ∨ i = 8 ∨ i = 9) with rfl | rfl | rfl | rfl | rfl | rfl | rfl | rfl | rfl | rfl
    · rw [show bsL marksT[0] = [60, 62] from rfl, pre2] at hy
      cases r with
      | nil => cases hy
      | cons d q =>
        simp at hy
        have e1 : c = 60 := UInt8.toNat_inj.1 hy.1
        have e2 : d = 62 := UInt8.toNat_inj.1 hy.2
        subst e1 e2
        exact ⟨rfl, rfl⟩
    · rw [show bsL marksT[1] = [60, 61] from rfl, pre2] at hy
      cases r with
      | nil => cases hy
      | cons d q =>
        simp at hy
        have e1 : c = 60 := UInt8.toNat_inj.1 hy.1
        have e2 : d = 61 := UInt8.toNat_inj.1 hy.2
        subst e1 e2
        exact ⟨rfl, rfl⟩
    · rw [show bsL marksT[2] = [62, 61] from rfl, pre2] at hy
      cases r with
      | nil => cases hy
      | cons d q =>
        simp at hy
        have e1 : c = 62 := UInt8.toNat_inj.1 hy.1
        have e2 : d = 61 := UInt8.toNat_inj.1 hy.2
        subst e1 e2
        exact ⟨rfl, rfl⟩
    all_goals
      have h2 := two (fun _ => trivial) (by decide) (by decide) (by decide)
    · rw [show bsL marksT[3] = [44] from rfl, pre1] at hy
      have h := one 44 (by decide) (by simpa using hy) h2
      rw [h.1]; exact ⟨rfl, h.2⟩
    · rw [show bsL marksT[4] = [40] from rfl, pre1] at hy
      have h := one 40 (by decide) (by simpa using hy) h2
      rw [h.1]; exact ⟨rfl, h.2⟩
    · rw [show bsL marksT[5] = [41] from rfl, pre1] at hy
      have h := one 41 (by decide) (by simpa using hy) h2
      rw [h.1]; exact ⟨rfl, h.2⟩
    · rw [show bsL marksT[6] = [42] from rfl, pre1] at hy
      have h := one 42 (by decide) (by simpa using hy) h2
      rw [h.1]; exact ⟨rfl, h.2⟩
    · rw [show bsL marksT[7] = [61] from rfl, pre1] at hy
      have h := one 61 (by decide) (by simpa using hy) h2
      rw [h.1]; exact ⟨rfl, h.2⟩
    · rw [show bsL marksT[8] = [60] from rfl, pre1] at hy
      have h := one 60 (by decide) (by simpa using hy) h2
      rw [h.1]; exact ⟨rfl, h.2⟩
    · rw [show bsL marksT[9] = [62] from rfl, pre1] at hy
      have h := one 62 (by decide) (by simpa using hy) h2
      rw [h.1]; exact ⟨rfl, h.2⟩
theorem mark_none (l : List UInt8) (hno : ∀ (j : Nat) (h : j < marksT.length), Lib.hasPrefix l (bsL marksT[j]) = false) : markL l = 0 := by
  have n0 := hno 0 (by decide)
  have n1 := hno 1 (by decide)
  have n2 := hno 2 (by decide)
  have n3 := hno 3 (by decide)
  have n4 := hno 4 (by decide)
  have n5 := hno 5 (by decide)
  have n6 := hno 6 (by decide)
  have n7 := hno 7 (by decide)
  have n8 := hno 8 (by decide)
  have n9 := hno 9 (by decide)
  rw [show bsL marksT[0] = [60, 62] from rfl, pre2] at n0
  rw [show bsL marksT[1] = [60, 61] from rfl, pre2] at n1
  rw [show bsL marksT[2] = [62, 61] from rfl, pre2] at n2
  rw [show bsL marksT[3] = [44] from rfl, pre1] at n3
  rw [show bsL marksT[4] = [40] from rfl, pre1] at n4
  rw [show bsL marksT[5] = [41] from rfl, pre1] at n5
  rw [show bsL marksT[6] = [42] from rfl, pre1] at n6
  rw [show bsL marksT[7] = [61] from rfl, pre1] at n7
  rw [show bsL marksT[8] = [60] from rfl, pre1] at n8
  rw [show bsL marksT[9] = [62] from rfl, pre1] at n9
  cases l with
  | nil => rfl
  | cons c r =>
    have h1 : mark1 c = false := by
      simp at n3 n4 n5 n6 n7 n8 n9
      simp [mark1]
      omega
    cases r with
    | nil => simp [markL, h1]
    | cons d q =>
      have h2 : mark2 c d = false := by
        simp at n0 n1 n2
        simp [mark2]
        omega
      simp [markL, h1, h2]
end Go.Proofs.YthinpbnnpelhhaaGreatDoor.V
