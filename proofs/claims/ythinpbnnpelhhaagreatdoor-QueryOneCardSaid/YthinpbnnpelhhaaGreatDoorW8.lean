import Derived.Test.YthinpbnnpelhhaaGreatDoorW7
namespace Go.Proofs.YthinpbnnpelhhaaGreatDoor.V
open Go Go.RowKit Go.Proofs.YthinpbnnpelhhaaGreatDoorW.PrintLast
open Go.Proofs
set_option linter.unusedVariables false
set_option linter.unusedSimpArgs false
attribute [local irreducible] awp
set_option maxRecDepth 100000
def cBy (b : UInt8) : List C := [.v (.int .u8 (b.toNat : Int))]
theorem textOf_by (l : List UInt8) : textOf (l.map fun x => lc (cBy x)) = ofL l := by
  unfold textOf
  congr 2
  rw [List.map_map]
  conv => rhs; rw [← List.map_id l]
  apply List.map_congr_left
  intro b _
  show UInt8.ofNat _ = b
  simp
theorem allByte_by (l : List UInt8) : allByte (l.map fun x => lc (cBy x)) := fun e he => by
  obtain ⟨b, _, rfl⟩ := List.mem_map.1 he
  exact ⟨_, rfl⟩
theorem quotL_ne {c : UInt8} {r : List UInt8} (h : c.toNat ≠ 39) : quotL (c :: r) = (quotL r).map fun x => (c :: x.1, x.2 + 1) := by
  rw [quotL.eq_def]; exact if_neg h
theorem quotL_end {c : UInt8} {r : List UInt8} (h : c.toNat = 39) (hr : ∀ d q, r = d :: q → d.toNat ≠ 39) : quotL (c :: r) = some ([], 1) := by
  rw [quotL.eq_def]
  simp only [if_pos h]
  cases r with
  | nil => rfl
  | cons d q => exact if_neg (hr d q rfl)
theorem quotL_two {c d : UInt8} {q : List UInt8} (h : c.toNat = 39) (hd : d.toNat = 39) : quotL (c :: d :: q) = (quotL q).map fun x => (39 :: x.1, x.2 + 2) := by
  rw [quotL.eq_def]
  simp only [if_pos h, if_pos hd]
end Go.Proofs.YthinpbnnpelhhaaGreatDoor.V
