import Derived.Test.YthinpbnnpelhhaaGreatDoorP2
import Derived.Test.YthinpbnnpelhhaaGreatDoorV23
import Derived.WalkKit
import Derived.BigCall
import Derived.Laws.ResultCell
import Derived.Deep.RegionHeld3
import Derived.Laws.Rows
import Derived.Laws.Tables
import Derived.Laws.AppendOwn
namespace Go.Proofs.YthinpbnnpelhhaaGreatDoor.V
open Go Go.RowKit Go.Proofs.YthinpbnnpelhhaaGreatDoorW.PrintLast
open Go.Proofs
set_option linter.unusedVariables false
set_option linter.unusedSimpArgs false
attribute [local irreducible] awp
set_option maxRecDepth 100000
open Go.RowKit
theorem alloc3 (w : World) (A B C : Obj) : (((w.alloc A).alloc B).alloc C).heap[w.heap.size + 1]? = some B := by
  show (((w.heap.push A).push B).push C)[w.heap.size + 1]? = _
  rw [Array.getElem?_push, if_neg (by simp), show w.heap.size + 1 = (w.heap.push A).size by simp, Array.getElem?_push_size]
theorem heapS (w : World) (o : Obj) : (w.alloc o).heap.size = w.heap.size + 1 := Array.size_push _
theorem below3 (w : World) (A B C : Obj) : Below w.heap.size w (((w.alloc A).alloc B).alloc C) := (((Below.refl _ w).alloc (Nat.le_refl _) A).alloc (by rw [heapS]; omega) B).alloc (by rw [heapS, heapS]; omega) C
theorem below3d (w : World) (A B C : Obj) : Below w.heap.size w (((w.alloc A).alloc B).alloc C).drew :=
  have h := below3 w A B C
  ⟨h.os, h.tape, h.output, h.size, h.block⟩
set_option maxHeartbeats 4000000 in
theorem wbare2 (c : ByteArray) (m : Int) (vn : Bool) (vi : Int) (vs : ByteArray) (k : Int) (pt : ByteArray) (K : Value) (w : World) : Calls Tryz.prog 68 #[.agg #[.int .i64 2, .string c, .int .i64 m, .bool vn, .int .i64 vi, .string vs, .int .i64 k, .string pt, K]] w fun e w' => e = .returned (.agg #[.int .i64 2, .string c, .int .i64 m, .bool vn, .int .i64 vi, .string vs, .int .i64 k, .string ⟨#[]⟩, .slice none 0 0]) ∧ Below w.heap.size w w' := by
  go_enter Tryz.func68, Tryz.ntmps68
  go_wp2
  go_region_held3 (fun w' => w'.cell? ⟨w.heap.size, 1, none⟩ = some (.string c) ∧ w'.cell? ⟨w.heap.size, 2, none⟩ = some (.int .i64 m) ∧ w'.cell? ⟨w.heap.size, 3, none⟩ = some (.bool vn) ∧ w'.cell? ⟨w.heap.size, 4, none⟩ = some (.int .i64 vi) ∧ w'.cell? ⟨w.heap.size, 5, none⟩ = some (.string vs) ∧ w'.cell? ⟨w.heap.size, 6, none⟩ = some (.int .i64 k)) (go_keep) (fail)
  go_wp2
  refine bodyPost_ret (results_cell_row (p := 2) (ty := 27) rfl _ _ (w.heap.size + 1) 27 #[.int .i64 2, .string c, .int .i64 m, .bool vn, .int .i64 vi, .string vs, .int .i64 k, .string ⟨#[]⟩, .slice none 0 0] (0, 0) _ rfl (alloc3 w _ _ _) Tryz.underlying27 rfl (by kernel_rfl)) rfl ⟨rfl, below3d w _ _ _⟩
set_option maxHeartbeats 4000000 in
theorem wbare4 (c : ByteArray) (m : Int) (vn : Bool) (vi : Int) (vs : ByteArray) (k : Int) (pt : ByteArray) (K : Value) (w : World) : Calls Tryz.prog 68 #[.agg #[.int .i64 4, .string c, .int .i64 m, .bool vn, .int .i64 vi, .string vs, .int .i64 k, .string pt, K]] w fun e w' => e = .returned (.agg #[.int .i64 4, .string c, .int .i64 0, .bool false, .int .i64 0, .string ⟨#[]⟩, .int .i64 0, .string pt, .slice none 0 0]) ∧ Below w.heap.size w w' := by
  go_enter Tryz.func68, Tryz.ntmps68
  go_wp2
  go_region_held3 (fun w' => w'.cell? ⟨w.heap.size, 1, none⟩ = some (.string c) ∧ w'.cell? ⟨w.heap.size, 7, none⟩ = some (.string pt)) (go_keep) (fail)
  go_wp2
  refine bodyPost_ret (results_cell_row (p := 2) (ty := 27) rfl _ _ (w.heap.size + 1) 27 #[.int .i64 4, .string c, .int .i64 0, .bool false, .int .i64 0, .string ⟨#[]⟩, .int .i64 0, .string pt, .slice none 0 0] (0, 0) _ rfl (alloc3 w _ _ _) Tryz.underlying27 rfl (by kernel_rfl)) rfl ⟨rfl, below3d w _ _ _⟩
set_option maxHeartbeats 4000000 in
theorem wbare3 (c : ByteArray) (m : Int) (vn : Bool) (vi : Int) (vs : ByteArray) (k : Int) (pt : ByteArray) (K : Value) (w : World) : Calls Tryz.prog 68 #[.agg #[.int .i64 3, .string c, .int .i64 m, .bool vn, .int .i64 vi, .string vs, .int .i64 k, .string pt, K]] w fun e w' => e = .returned (.agg #[.int .i64 3, .string c, .int .i64 0, .bool false, .int .i64 0, .string ⟨#[]⟩, .int .i64 0, .string ⟨#[]⟩, .slice none 0 0]) ∧ Below w.heap.size w w' := by
  go_enter Tryz.func68, Tryz.ntmps68
  go_wp2
  refine bodyPost_ret (results_cell_row (p := 2) (ty := 27) rfl _ _ (w.heap.size + 1) 27 #[.int .i64 3, .string c, .int .i64 0, .bool false, .int .i64 0, .string ⟨#[]⟩, .int .i64 0, .string ⟨#[]⟩, .slice none 0 0] (0, 0) _ rfl (alloc3 w _ _ _) Tryz.underlying27 rfl (by kernel_rfl)) rfl ⟨rfl, below3 w _ _ _⟩
set_option maxHeartbeats 4000000 in
theorem wbare0 (o : Int) (h2 : o ≠ 2) (h3 : o ≠ 3) (h4 : o ≠ 4) (c : ByteArray) (m : Int) (vn : Bool) (vi : Int) (vs : ByteArray) (k : Int) (pt : ByteArray) (K : Value) (w : World) : Calls Tryz.prog 68 #[.agg #[.int .i64 o, .string c, .int .i64 m, .bool vn, .int .i64 vi, .string vs, .int .i64 k, .string pt, K]] w fun e w' => e = .returned (.agg #[.int .i64 o, .string ⟨#[]⟩, .int .i64 0, .bool false, .int .i64 0, .string ⟨#[]⟩, .int .i64 0, .string ⟨#[]⟩, .slice none 0 0]) ∧ Below w.heap.size w w' := by
  have d2 : decide (o = 2) = false := decide_eq_false h2
  have d3 : decide (o = 3) = false := decide_eq_false h3
  have d4 : decide (o = 4) = false := decide_eq_false h4
  go_enter Tryz.func68, Tryz.ntmps68
  go_wp2
  refine bodyPost_ret (results_cell_row (p := 2) (ty := 27) rfl _ _ (w.heap.size + 1) 27 #[.int .i64 o, .string ⟨#[]⟩, .int .i64 0, .bool false, .int .i64 0, .string ⟨#[]⟩, .int .i64 0, .string ⟨#[]⟩, .slice none 0 0] (0, 0) _ rfl (alloc3 w _ _ _) Tryz.underlying27 rfl (by kernel_rfl)) rfl ⟨rfl, below3 w _ _ _⟩

end Go.Proofs.YthinpbnnpelhhaaGreatDoor.V
