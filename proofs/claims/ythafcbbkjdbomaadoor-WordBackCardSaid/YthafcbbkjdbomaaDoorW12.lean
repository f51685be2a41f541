import Derived.Test.YthafcbbkjdbomaaDoorW11
import Derived.Test.YthafcbbkjdbomaaDoorS3
import Derived.Test.YthafcbbkjdbomaaDoorSh
import Derived.WalkKit
import Derived.BigCall
import Derived.LoopTactic
import Derived.Laws.AppendOwn
import Derived.Laws.CopyOwn
import Derived.Laws.Rows
import Derived.Laws.Tables
import Derived.Laws.ResultCell
namespace Go.Proofs.YthafcbbkjdbomaaDoor.V
open Go Go.RowKit Go.Proofs.YthafcbbkjdbomaaDoorW.PrintLast
open Go.Proofs
set_option linter.unusedVariables false
set_option linter.unusedSimpArgs false
attribute [local irreducible] awp
set_option maxRecDepth 100000
open Go.RowKit
def tqL : Option (List UInt8 × Nat) → Tk × Nat
  | none => (tk0, 0)
  | some x => (⟨3, ofL x.1, 0, 0⟩, x.2 + 1)
theorem ret_cell {fn : Func} {p u : Tmp} {ty : TypeId} (h : fn.results = #[.cell p ty, .tmp u]) (tmps : Array Value) (P : Program) (w : World) (g : Nat) (cs : Array Value) (hp : tmps.getD p undef = .pointer (some ⟨g, 0, none⟩))
    (hl : (loadVar ty ⟨g, 0, none⟩).run P w = .ok (.agg cs) w) : (results fn tmps).run P w = .ok (.tuple #[.agg cs, tmps.getD u undef]) w := by
  rw [results_cell_tmp h, hp]
  have e : (asAddr (.pointer (some ⟨g, 0, none⟩))).run P w = .ok ⟨g, 0, none⟩ w := rfl
  rw [e]
  show ((loadVar ty _).run P w).andThen _ = _
  rw [hl]
  rfl
theorem heapA (w : World) (o : Obj) : (w.alloc o).heap.size = w.heap.size + 1 := Array.size_push _
theorem heapN (w : World) (o : Obj) : (w.alloc o).heap[w.heap.size]? = some o := Array.getElem?_push_size
set_option maxHeartbeats 4000000 in
theorem w112 (s : ByteArray) (h1 : 1 ≤ s.size) (hs : s.size ≤ 400) (w : World) : Calls Tryd.prog 59 #[.string s] w fun e w' => e = .returned (.tuple #[.agg #[.int .i64 (tqL (quotL ((bsL s).drop 1))).1.kind, .string (tqL (quotL ((bsL s).drop 1))).1.s, .int .i64 0, .int .i64 0], .int .i64 (tqL (quotL ((bsL s).drop 1))).2]) ∧ Below w.heap.size w w' := by
  have hsz := len_bsL s
  go_enter Tryd.func59, Tryd.ntmps59
  go_wp2
  have b2 : Below w.heap.size w ((w.alloc (.cells #[.int .i64 0, .string ⟨#[]⟩, .int .i64 0, .int .i64 0] 29)).alloc (.cells #[.pointer none, .slice none 0 0] 91)) := ((Below.refl _ w).alloc (Nat.le_refl _) _).alloc (by rw [heapA]; omega) _
  go_loopw [5] (fun v wr => ∃ (a : Nat) (acc : List UInt8), v = .int .i64 a ∧ 1 ≤ a ∧ a ≤ s.size ∧ acc.length ≤ a ∧ quotL ((bsL s).drop 1) = (quotL ((bsL s).drop a)).map (fun x => (acc ++ x.1, x.2 + (a - 1))) ∧ Lib.IsBuilder 91 5 (w.heap.size + 1) (w.heap.size + 1) (Lib.byteCells acc) wr ∧ Below w.heap.size w wr ∧ w.heap.size + 1 ≤ wr.heap.size ∧ wr.heap[w.heap.size]? = some (.cells #[.int .i64 0, .string ⟨#[]⟩, .int .i64 0, .int .i64 0] 29)) (fun v _ => s.size - (intOf v).toNat)
  case atStart =>
    have e1 : (w.alloc (.cells #[.int .i64 0, .string ⟨#[]⟩, .int .i64 0, .int .i64 0] 29)).heap.size = w.heap.size + 1 := heapA _ _
    have hB0 := Lib.fresh_isBuilder 91 5 (w.alloc (.cells #[.int .i64 0, .string ⟨#[]⟩, .int .i64 0, .int .i64 0] 29))
    rw [e1] at hB0
    refine ⟨1, [], rfl, Nat.le_refl _, h1, by simp, by simp, hB0, b2, by rw [heapA, e1]; omega, ?_⟩
    rw [Lib.alloc_old _ _ _ (by rw [e1]; omega)]
    exact heapN w _
  case round =>
    obtain ⟨a, acc, rfl, ha1, ha, hacc, hq, hB, hw, hsw, hcell⟩ := hrel
    obtain ⟨hq1, hq2⟩ := quot_idx ((bsL s).drop a)
    have hcut : (s.extract a s.size).data.toList = (bsL s).drop a := by
      have := bsL_cut s a s.size (Nat.le_refl _)
      rw [List.take_of_length_le (by rw [List.length_drop]; omega)] at this
      exact this
    go_wp2_with (go_at_call 80; refine (Tryd.strings_Index_one (s.extract a s.size) 39 _).mono ?_)
    rw [hcut]
    obtain ⟨x, hx⟩ : ∃ x, x = Lib.indexByte ((bsL s).drop a) 39 := ⟨_, rfl⟩
    rw [← hx] at hq1 hq2 ⊢
    clear hx
    rintro e w' ⟨rfl, rfl⟩
    by_cases hx0 : x < 0
    · have hd : decide (x < 0) = true := decide_eq_true hx0
      go_wp2_with (refine wpList_plain (by rfl) fun K hK => ?_; refine wp_store_row 29 _ _ rfl w.heap.size #[.int .i64 0, .string ⟨#[]⟩, .int .i64 0, .int .i64 0] (by rfl) (by rfl) 29 #[.int .i64 0, .string ⟨#[]⟩, .int .i64 0, .int .i64 0] ?_ ?_ ?_ ?_ ?_; exact hcell; (first | kernel_rfl | (rfl)); rfl; (first | rfl | kernel_rfl | decide); refine hK _ _ ?_)
      have hst := setRow_heap w' w.heap.size _ #[.int .i64 0, .string ⟨#[]⟩, .int .i64 0, .int .i64 0] 29 (0, 0) hcell
      have hb3 := below_setRow hw (Nat.le_refl _) #[.int .i64 0, .string ⟨#[]⟩, .int .i64 0, .int .i64 0]
      generalize w'.setRow w.heap.size #[.int .i64 0, .string ⟨#[]⟩, .int .i64 0, .int .i64 0] = W3 at hst hb3
      have hld := run_loadVar_row (P := Tryd.prog) W3 w.heap.size 29 29 _ (0, 0) _ hst Tryd.underlying29 rfl (by kernel_rfl)
      refine bodyPost_ret (ret_cell (p := 2) (u := 3) (ty := 29) ?_ _ _ _ w.heap.size #[.int .i64 0, .string ⟨#[]⟩, .int .i64 0, .int .i64 0] ?_ hld) ?_ ?_
      · rfl
      · rfl
      · rfl
      refine ⟨?_, hb3⟩
      rw [hq, hq1 hx0]
      rfl
    · have hd : decide (x < 0) = false := decide_eq_false hx0
      obtain ⟨i, rfl⟩ : ∃ i : Nat, x = i := ⟨x.toNat, by omega⟩
      obtain ⟨hi, hq3⟩ := hq2 i rfl
      rw [List.length_drop] at hi
      have hwi : IntKind.i64.wrap ((a : Int) + (i : Int)) = ((a + i : Nat) : Int) := by rw [IntKind.wrap_i64]; omega
      rw [hsz] at hi
      have hz1 : (a : Int) ≤ (a : Int) + (i : Int) := by omega
      have hz2 : (a : Int) + (i : Int) ≤ (s.size : Int) := by omega
      have hz3 : (0 : Int) ≤ (a : Int) := by omega
      have hz4 : ((a : Int) + (i : Int)).toNat = a + i := by omega
      go_wp2_with (go_at_call 81; refine (Tryd.Builder_WriteString (w.heap.size + 1) (w.heap.size + 1) _ _ _ hB ?_ ?_).mono ?_)
      · rw [Lib.byteCells_length, size_cut s a (a + i) (by omega)]; omega
      · exact hsw
      rintro e w2 ⟨rfl, hB2, hb2⟩
      have hB3 : Lib.IsBuilder 91 5 (w.heap.size + 1) (w.heap.size + 1) (Lib.byteCells (acc ++ ((bsL s).drop a).take i)) w2 := by
        rw [Lib.strCells_eq, ← Lib.byteCells_append] at hB2
        have e := bsL_cut s a (a + i) (by omega)
        rw [Nat.add_sub_cancel_left] at e
        rw [← e]
        exact Or.inr hB2
      have hcell2 := (hb2.block w.heap.size (by omega)).trans hcell
      have hw2 := hw.trans (hb2.mono (Nat.le_succ _))
      have hsw2 := Nat.le_trans hsw hb2.size
      clear hB hB2 hb2 hw hcell hsw
      have hz5 : (0 : Int) ≤ (a : Int) + ((i : Int) + 1) := by omega
      have hz6 : (a : Int) + ((i : Int) + 1) ≤ (s.size : Int) := by omega
      have hz7 : ((a : Int) + ((i : Int) + 1)).toNat = a + (i + 1) := by omega
      have hcut2 : (s.extract (a + (i + 1)) s.size).data.toList = ((bsL s).drop a).drop (i + 1) := by
        have := bsL_cut s (a + (i + 1)) s.size (Nat.le_refl _)
        rw [List.take_of_length_le (by rw [List.length_drop]; omega), ← List.drop_drop] at this
        exact this
      obtain ⟨b, hb⟩ : ∃ b, b = Lib.hasPrefix (((bsL s).drop a).drop (i + 1)) [39] := ⟨_, rfl⟩
      have cP := Tryd.strings_HasPrefix (s.extract (a + (i + 1)) s.size) ⟨#[39]⟩ w2
      rw [hcut2, show ((⟨#[39]⟩ : ByteArray).data.toList) = [39] from rfl, ← hb] at cP
      rw [← hb] at hq3
      have hbe : b = true → a + (i + 1) < s.size := fun h => by
        refine Nat.lt_of_not_le fun hle => ?_
        rw [List.drop_drop, List.drop_of_length_le (by omega), h] at hb
        exact absurd hb (by decide)
      clear hb hcut2
      cases b with
      | true =>
        rw [if_pos rfl] at hq3
        have hbe := hbe rfl
        go_wp2_with (first | (go_at_call 82; refine cP.mono ?_; rintro e w' ⟨rfl, rfl⟩) | (go_at_call 81; refine (Tryd.Builder_WriteString (w.heap.size + 1) (w.heap.size + 1) _ _ _ hB3 ?_ ?_).mono ?_))
        · rw [Lib.byteCells_length, List.length_append, List.length_take, show (⟨#[39]⟩ : ByteArray).size = 1 from rfl]; omega
        · exact hsw2
        rintro e w3 ⟨rfl, hB4, hb4⟩
        have hB5 : Lib.IsBuilder 91 5 (w.heap.size + 1) (w.heap.size + 1) (Lib.byteCells (acc ++ (((bsL s).drop a).take i ++ [39]))) w3 := by
          rw [Lib.strCells_eq, ← Lib.byteCells_append, List.append_assoc] at hB4
          exact Or.inr hB4
        have hcell3 := (hb4.block w.heap.size (by omega)).trans hcell2
        have hw3 := hw2.trans (hb4.mono (Nat.le_succ _))
        have hsw3 := Nat.le_trans hsw2 hb4.size
        clear hB3 hB4 hb4 hw2 hcell2 hsw2
        go_wp2
        refine ⟨⟨a + (i + 2), acc ++ (((bsL s).drop a).take i ++ [39]), congrArg (Value.int .i64) (by omega), by omega, by omega, by simp; omega, ?_, hB5, hw3, hsw3, hcell3⟩, ?_⟩
        · rw [hq, hq3, List.drop_drop]
          cases quotL (List.drop (a + (i + 2)) (bsL s)) with
          | none => rfl
          | some x => simp; omega
        · show s.size - ((a : Int) + ((i : Int) + 1) + 1).toNat < s.size - ((a : Int)).toNat
          omega
      | false =>
        rw [if_neg (fun h => (nomatch h))] at hq3
        go_wp2_with (first | (go_at_call 82; refine cP.mono ?_; rintro e w' ⟨rfl, rfl⟩) | (go_at_call 83; refine (Tryd.Builder_String_any (w.heap.size + 1) (w.heap.size + 1) _ _ hB3 ?_).mono ?_))
        · exact hsw2
        rintro e w3 ⟨rfl, hb4⟩
        have hcell3 := (hb4.block w.heap.size (by omega)).trans hcell2
        have hw3 := hw2.trans (hb4.mono (Nat.le_succ _))
        go_wp2_with (refine wpList_plain (by rfl) fun K hK => ?_; refine wp_store_row 29 _ _ rfl w.heap.size #[.int .i64 3, .string ⟨(acc ++ ((bsL s).drop a).take i).toArray⟩, .int .i64 0, .int .i64 0] (by rfl) (by rfl) 29 #[.int .i64 0, .string ⟨#[]⟩, .int .i64 0, .int .i64 0] ?_ ?_ ?_ ?_ ?_; exact hcell3; (first | kernel_rfl | (rfl)); rfl; (first | rfl | kernel_rfl | decide); refine hK _ _ ?_)
        have hst := setRow_heap w3 w.heap.size _ #[.int .i64 3, .string ⟨(acc ++ ((bsL s).drop a).take i).toArray⟩, .int .i64 0, .int .i64 0] 29 (0, 0) hcell3
        have hb3 := below_setRow hw3 (Nat.le_refl _) #[.int .i64 3, .string ⟨(acc ++ ((bsL s).drop a).take i).toArray⟩, .int .i64 0, .int .i64 0]
        generalize w3.setRow w.heap.size #[.int .i64 3, .string ⟨(acc ++ ((bsL s).drop a).take i).toArray⟩, .int .i64 0, .int .i64 0] = W3 at hst hb3
        have hld := run_loadVar_row (P := Tryd.prog) W3 w.heap.size 29 29 _ (0, 0) _ hst Tryd.underlying29 rfl (by kernel_rfl)
        refine bodyPost_ret (ret_cell (p := 2) (u := 3) (ty := 29) ?_ _ _ _ w.heap.size #[.int .i64 3, .string ⟨(acc ++ ((bsL s).drop a).take i).toArray⟩, .int .i64 0, .int .i64 0] ?_ hld) ?_ ?_
        · rfl
        · rfl
        · rfl
        refine ⟨?_, hb3⟩
        rw [hq, hq3]
        show Ending.returned (.tuple #[_, .int .i64 ((a : Int) + ((i : Int) + 1))]) = Ending.returned (.tuple #[_, .int .i64 (((i + 1 + (a - 1) + 1 : Nat)) : Int)])
        rw [show (((i + 1 + (a - 1) + 1 : Nat)) : Int) = (a : Int) + ((i : Int) + 1) by omega]
        rfl

end Go.Proofs.YthafcbbkjdbomaaDoor.V
