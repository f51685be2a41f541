import Derived.Test.YthinpbnnpelhhaaGreatDoorS5
namespace Go.Proofs.YthinpbnnpelhhaaGreatDoor.V
open Go Go.RowKit Go.Proofs.YthinpbnnpelhhaaGreatDoorW.PrintLast
open Go.Proofs
set_option linter.unusedVariables false
set_option linter.unusedSimpArgs false
attribute [local irreducible] awp
theorem wj1 (a b : Nat) (ha : a ≤ 150) (hb : b ≤ 150) : IntKind.i64.wrap (IntKind.i64.wrap ((a : Int) + (b : Int)) + 1) = ((a + 1 + b : Nat) : Int) := by
  have h0 : IntKind.i64.wrap ((a : Int) + (b : Int)) = ((a + b : Nat) : Int) := by rw [IntKind.wrap_i64]; omega
  rw [h0, IntKind.wrap_i64]
  omega
/-- A place of the joined tokens ahead of the first text's end: the first text's. -/
theorem wj_lo (T : List Tk) (e : Tk) (M : List Tk) {i : Nat} (h : i < T.length) : elemsOf ((T ++ M).map cTk) i = elemsOf ((T ++ [e]).map cTk) i := by
  rw [elems_lt (by simp; omega), elems_lt (by simp; omega)]
  rw [List.getElem_map, List.getElem_map, List.getElem_append_left h, List.getElem_append_left h]
/-- Behind it: the second text's, moved. -/
theorem wj_hi (T : List Tk) (M : List Tk) (j : Nat) {i : Nat} (h : T.length ≤ i) (h2 : i < T.length + M.length) : ∃ t : Tk, elemsOf ((T ++ M.map (shT j)).map cTk) i = el (cTk (shT j t)) ∧ elemsOf (M.map cTk) (i - T.length) = el (cTk t) := by
  refine ⟨M[i - T.length]'(by omega), ?_, ?_⟩
  · rw [elems_lt (by simp; omega)]
    rw [List.getElem_map, List.getElem_append_right h, List.getElem_map]
  · rw [elems_lt (by simp; omega)]
    simp

end Go.Proofs.YthinpbnnpelhhaaGreatDoor.V
