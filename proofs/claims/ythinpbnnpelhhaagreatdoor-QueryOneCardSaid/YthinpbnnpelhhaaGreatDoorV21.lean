import Derived.Test.YthinpbnnpelhhaaGreatDoorV20
namespace Go.Proofs.YthinpbnnpelhhaaGreatDoor.V
open Go Go.RowKit Go.Proofs.YthinpbnnpelhhaaGreatDoorW.PrintLast
open Go.Proofs
set_option linter.unusedVariables false
set_option linter.unusedSimpArgs false
attribute [local irreducible] awp
--IMP V20
/-! Rows of things. -/
def lc (x : List C) : List L := x.map L.c
def elemsOf (es : List (List C)) : Nat → Nat → C := fun i j => (es.getD i []).getD j .any
def el (x : List C) : Nat → C := fun j => x.getD j .any
def rowA {α : Type} (sz : Nat) (f : α → List C) (l : List α) : C := .sl l.length sz (elemsOf (l.map f))
theorem elems_lt {es : List (List C)} {i : Nat} (h : i < es.length) : elemsOf es i = el (es[i]'h) := by
  funext j
  unfold elemsOf el
  rw [List.getD_eq_getElem?_getD (l := es), List.getElem?_eq_getElem h]
  rfl
theorem el_at {α : Type} {f : α → List C} {l : List α} {i : Nat} (h : i < l.length) : elemsOf (l.map f) i = el (f (l[i]'h)) := by
  funext j
  unfold elemsOf el
  rw [List.getD_eq_getElem?_getD (l := l.map f), List.getElem?_map, List.getElem?_eq_getElem h]
  rfl
theorem vw_lc {α : Type} (l : List α) (f : α → List C) : vw (l.map fun x => lc (f x)) = elemsOf (l.map f) := by
  funext i j
  unfold vw elemsOf
  simp only [List.getD_eq_getElem?_getD, List.getElem?_map]
  cases l[i]? with
  | none => rfl
  | some x =>
    simp only [Option.map_some, Option.getD_some, lc, List.getElem?_map]
    cases (f x)[j]? <;> rfl
theorem allCell_nil : allCell [] ↔ True := ⟨fun _ => trivial, fun _ e h => by simp at h⟩
theorem allCell_cons (e : List L) (r : List (List L)) : allCell (e :: r) ↔ e.all lcell = true ∧ allCell r :=
  ⟨fun h => ⟨h e List.mem_cons_self, fun x hx => h x (List.mem_cons_of_mem _ hx)⟩, fun h x hx => by
    rcases List.mem_cons.1 hx with rfl | hx
    · exact h.1
    · exact h.2 x hx⟩
theorem one_max : 1 ≤ maxLen ↔ True := by simp [maxLen]
/-- Rows that hold no own memory stay as they are by new numbers. -/
theorem sub_lc {α : Type} (l : List α) (f : α → List C) (bx : List B) (ρ : Nat → Option Nat) : (l.map fun x => lc (f x)).map (fun e => e.map (subL bx ρ)) = l.map fun x => lc (f x) := by
  rw [List.map_map]
  refine List.map_congr_left fun x _ => ?_
  simp only [Function.comp, lc, List.map_map]
  rfl
attribute [go_sem] List.getD_cons_zero List.getD_cons_succ Int.toNat_natCast allCell_nil allCell_cons one_max sub_lc
end Go.Proofs.YthinpbnnpelhhaaGreatDoor.V
