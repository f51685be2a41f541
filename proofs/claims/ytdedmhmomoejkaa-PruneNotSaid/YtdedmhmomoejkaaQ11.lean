/- Words and walks for pruneNot_holds, part 11 of the texts that a program of this session laid together. -/
import Derived.Test.YtdedmhmomoejkaaQ1
import Derived.Test.YtdedmhmomoejkaaQ5
import Derived.Test.YtdedmhmomoejkaaQ6
import Derived.Test.YtdedmhmomoejkaaQ10
namespace Go.Proofs.Ytdedmhmomoejkaa.X
open Go.RowKit Go.Proofs.YtdedmhmomoejkaaW.PrintWords Go.Proofs.YtdedmhmomoejkaaW.PrintLast Go.Proofs.YtdedmhmomoejkaaW.PrintMore
attribute [local go_sem] max2_int max_two
set_option linter.unusedVariables false
set_option linter.unusedSimpArgs false
def prune_Ask.l0 : Nat → List (S64) → List (S33) → List (S33) → Int → Int → Int → ByteArray → Int → Bool → Int → ByteArray → Int → ByteArray → List (S27) → Option (Bool × Bool × Bool × Int)
 | 0, _, _, _, _, _, _, _, _, _, _, _, _, _, _ => none
 | k + 1, x0, x2, x24, x25, x26, x221000, x221001, x221002, x221003, x221004, x221005, x221006, x221007, x221008 => if x26 < x25 then (if 0 ≤ x26 then (if x26 < (x24.length : Int) then (if x26 < (x0.length : Int) then ((zone_May.f k ((rd_T64 x0 x26).f1) ((rd_T33 x24 x26).f0) ((rd_T33 x24 x26).f1) ((rd_T33 x24 x26).f2.f0) ((rd_T33 x24 x26).f2.f1) ((rd_T33 x24 x26).f2.f2) ((rd_T33 x24 x26).f3.f0) ((rd_T33 x24 x26).f3.f1) ((rd_T33 x24 x26).f3.f2)).bind fun t226 => (if t226 = true then (prune_Ask.l0 k x0 x2 x24 x25 (wrap64 (x26 + 1)) x221000 x221001 x221002 x221003 x221004 x221005 x221006 x221007 x221008) else (some (false, false, false, 1)))) else (none)) else (none)) else (none)) else ((prune_asker_ask.f k x0 x2 x221000 x221001 x221002 x221003 x221004 x221005 x221006 x221007 x221008).bind fun bt227 => (some (bt227.1, bt227.2.1, bt227.2.2, 0)))
def prune_Ask.f (k : Nat) (l0 : List (S64)) (a1_0 : Int) (a1_1 : ByteArray) (a1_2 : Int) (a1_3 : Bool) (a1_4 : Int) (a1_5 : ByteArray) (a1_6 : Int) (a1_7 : ByteArray) (l1_8 : List (S27)) (l2 : List (S33)) : Option (Bool × Bool × Bool × Int) := (pred_Fits.f l0 a1_0 a1_1 a1_2 a1_3 a1_4 a1_5 a1_6 a1_7 l1_8).bind fun t222 => (if t222 = 0 then (if (l2.length : Int) = (l0.length : Int) then (prune_Ask.l0 k l0 l2 l2 (l2.length : Int) 0 a1_0 a1_1 a1_2 a1_3 a1_4 a1_5 a1_6 a1_7 l1_8) else (some (false, false, false, 1))) else (some (false, false, false, t222)))
theorem prune_Ask.mono_l : ∀ k, (∀ y0 y1 y2 y3 y4 y5 y6 y7 y8 y9 y10 y11 y12 y13, LeO (prune_Ask.l0 k y0 y1 y2 y3 y4 y5 y6 y7 y8 y9 y10 y11 y12 y13) (prune_Ask.l0 (k + 1) y0 y1 y2 y3 y4 y5 y6 y7 y8 y9 y10 y11 y12 y13))
 | 0 => fun _ _ _ _ _ _ _ _ _ _ _ _ _ _ r h => by simp [prune_Ask.l0] at h
 | k + 1 => by
  have ih0 := prune_Ask.mono_l k
  ·intro y0 y1 y2 y3 y4 y5 y6 y7 y8 y9 y10 y11 y12 y13
   unfold prune_Ask.l0
   repeat' first
   | (with_reducible exact ih0 _ _ _ _ _ _ _ _ _ _ _ _ _ _)
   | (with_reducible exact prune_asker_ask.mono _ _ _ _ _ _ _ _ _ _ _ _)
   | (with_reducible exact zone_May.mono _ _ _ _ _ _ _ _ _ _)
   | (with_reducible exact LeO.refl _)
   | (with_reducible exact LeO.none _)
   | (with_reducible refine LeO.ite ?_ ?_)
   | (with_reducible refine LeO.bind ?_ (fun _ => ?_))
   | exact ih0 _ _ _ _ _ _ _ _ _ _ _ _ _ _
   | exact prune_asker_ask.mono _ _ _ _ _ _ _ _ _ _ _ _
   | exact zone_May.mono _ _ _ _ _ _ _ _ _ _
   | exact LeO.none _
   | refine LeO.ite ?_ ?_
   | refine LeO.bind ?_ (fun _ => ?_)
theorem prune_Ask.mono : ∀ a0 a1 a2 a3 a4 a5 a6 a7 a8 a9 a10 k, LeO (prune_Ask.f k a0 a1 a2 a3 a4 a5 a6 a7 a8 a9 a10) (prune_Ask.f (k + 1) a0 a1 a2 a3 a4 a5 a6 a7 a8 a9 a10) := by
 intro a0 a1 a2 a3 a4 a5 a6 a7 a8 a9 a10 k
 have ih0 := prune_Ask.mono_l k
 unfold prune_Ask.f
 repeat' first
   | (with_reducible exact ih0 _ _ _ _ _ _ _ _ _ _ _ _ _ _)
   | (with_reducible exact prune_asker_ask.mono _ _ _ _ _ _ _ _ _ _ _ _)
   | (with_reducible exact zone_May.mono _ _ _ _ _ _ _ _ _ _)
   | (with_reducible exact LeO.refl _)
   | (with_reducible exact LeO.none _)
   | (with_reducible refine LeO.ite ?_ ?_)
   | (with_reducible refine LeO.bind ?_ (fun _ => ?_))
   | exact ih0 _ _ _ _ _ _ _ _ _ _ _ _ _ _
   | exact prune_asker_ask.mono _ _ _ _ _ _ _ _ _ _ _ _
   | exact zone_May.mono _ _ _ _ _ _ _ _ _ _
   | exact LeO.none _
   | refine LeO.ite ?_ ?_
   | refine LeO.bind ?_ (fun _ => ?_)
def prune_Ask.T9 : Bool × List (List Nat × List Nat) := (true, [([], []), ([], []), ([0, 1], [0, 1]), ([2], [2]), ([3], [3]), ([], []), ([4, 5], [4, 5]), ([6], [6])])
def prune_Ask.B9 : List Nat := [0, 0, 3, 7, 15, 0, 63, 127]
theorem prune_Ask.tab9 : rtab .any (opsOf Try.f12 9) = prune_Ask.T9 := by kernel_rfl
theorem prune_Ask.bits9 : waitsOk prune_Ask.T9.2 prune_Ask.B9 = true := by kernel_rfl
set_option maxHeartbeats 8000000 in
set_option maxRecDepth 100000 in
theorem prune_Ask.calls (k : Nat) (A0 : Option Addr) (c0 : Nat) (l0 : List (S64)) (a1_0 : Int) (a1_1 : ByteArray) (a1_2 : Int) (a1_3 : Bool) (a1_4 : Int) (a1_5 : ByteArray) (a1_6 : Int) (a1_7 : ByteArray) (A1_8 : Option Addr) (c1_8 : Nat) (l1_8 : List (S27)) (A2 : Option Addr) (c2 : Nat) (l2 : List (S33)) (r1 : Bool) (r2 : Bool) (r3 : Bool) (r4 : Int) (w : World) (hr0 : Kd.C k64 w A0 l0.length l0) (hc0 : l0.length ≤ c0) (hr1_8 : Kd.C k27 w A1_8 l1_8.length l1_8) (hc1_8 : l1_8.length ≤ c1_8) (hr2 : Kd.C k33 w A2 l2.length l2) (hc2 : l2.length ≤ c2) (h : prune_Ask.f k l0 a1_0 a1_1 a1_2 a1_3 a1_4 a1_5 a1_6 a1_7 l1_8 l2 = some (r1, r2, r3, r4)) :
  Calls Try.prog 12 #[.slice A0 l0.length c0, .agg #[.int .i64 a1_0, .string a1_1, .int .i64 a1_2, .bool a1_3, .int .i64 a1_4, .string a1_5, .int .i64 a1_6, .string a1_7, .slice A1_8 l1_8.length c1_8], .slice A2 l2.length c2] w fun e w' => e = .returned (.tuple #[.agg #[.bool r1, .bool r2, .bool r3], .int .i64 r4]) ∧ Below w.heap.size w w' := by
 have hu27 := Try.underlying27
 have hu35 := Try.underlying35
 have hu33 := Try.underlying33
 have hu68 := Try.underlying68
 have HR0 := Aside0.mk hr0
 have HC0 := Aside0.mk hc0
 clear hr0 hc0
 have HR1_8 := Aside0.mk hr1_8
 have HC1_8 := Aside0.mk hc1_8
 clear hr1_8 hc1_8
 have HR2 := Aside0.mk hr2
 have HC2 := Aside0.mk hc2
 clear hr2 hc2
 have HB := Aside0.mk (Below.refl w.heap.size w)
 have H : ((pred_Fits.f l0 a1_0 a1_1 a1_2 a1_3 a1_4 a1_5 a1_6 a1_7 l1_8).bind fun t222 => (if t222 = 0 then (if (l2.length : Int) = (l0.length : Int) then (prune_Ask.l0 k l0 l2 l2 (l2.length : Int) 0 a1_0 a1_1 a1_2 a1_3 a1_4 a1_5 a1_6 a1_7 l1_8) else (some (false, false, false, 1))) else (some (false, false, false, t222)))) = some (r1, r2, r3, r4) := h
 clear h
 replace H := Option.bind_eq_some_iff.mp H
 obtain ⟨t222, A40, H⟩ := H
 replace H : (if t222 = 0 then (if (l2.length : Int) = (l0.length : Int) then (prune_Ask.l0 k l0 l2 l2 (l2.length : Int) 0 a1_0 a1_1 a1_2 a1_3 a1_4 a1_5 a1_6 a1_7 l1_8) else (some (false, false, false, 1))) else (some (false, false, false, t222))) = some (r1, r2, r3, r4) := H
 have A4 := Aside0.mk A40
 clear A40
 by_cases c5 : t222 = 0
 ·rw [if_pos c5] at H
  have c5b0 : (t222 == 0) = true := beq_iff_eq.mpr c5
  have c5b1 : (t222 != 0) = false := bne_eq_false_iff_eq.mpr c5
  clear c5
  by_cases c6 : (l2.length : Int) = (l0.length : Int)
  ·rw [if_pos c6] at H
   have c6b0 : ((l2.length : Int) == (l0.length : Int)) = true := beq_iff_eq.mpr c6
   have c6b1 : ((l2.length : Int) != (l0.length : Int)) = false := bne_eq_false_iff_eq.mpr c6
   have c6b2 : (l2.length == l0.length) = true := by first | simpa using c6 | (simp at c6 ⊢; omega)
   clear c6
   have H' := Aside0.mk H
   clear H
   go_enter Try.func12, Try.ntmps12
   go_wp2_with (first | ((with_reducible refine gate_dst (N := 4) rfl ?_); refine box_event ?hg (N := 4) ?hd (cs := #[.int .i64 a1_0, .string a1_1, .int .i64 a1_2, .bool a1_3, .int .i64 a1_4, .string a1_5, .int .i64 a1_6, .string a1_7, .slice A1_8 l1_8.length c1_8]) (t := 27) ?hr ?_; (case hd => rfl); (case hg => rfl); (case hr => first | (go_simp; done) | (go_simp; rfl)); intro gb220 hg w7 hbox hb; have n0_ := Aside0.mk (below_step (by repeat (first | (with_reducible first | exact HB.out | apply below_alloc | apply pw_below_drewN | apply below_drew1) | exact HB.out)) hb); have n1_ := Aside0.mk (hbox); have n2_ := Aside0.mk ((by rw [hg]; exact (below_size (by repeat (first | (with_reducible first | exact HB.out | apply below_alloc | apply pw_below_drewN | apply below_drew1) | exact HB.out))) : w.heap.size ≤ gb220)); have n3_ := Aside0.mk ((by rw [hg]; exact (below_size (by repeat (first | (with_reducible first | exact HB.out | apply below_alloc | apply pw_below_drewN | apply below_drew1) | exact HB.out))) : w.heap.size ≤ gb220)); clear HB; have HB := n0_; have BK220 := n1_; have GW220 := n2_; have GE220 := n3_; clear n0_ n1_ n2_ n3_; clear hb hbox hg) | ((with_reducible refine gate_dst (N := 6) rfl ?_); refine box_event ?hg (N := 6) ?hd (cs := #[.bool false, .bool false, .bool false]) (t := 35) ?hr ?_; (case hd => rfl); (case hg => rfl); (case hr => first | (go_simp; done) | (go_simp; rfl)); intro gb221 hg w8 hbox hb; have n0_ := Aside0.mk (blk_below (g := gb220) (o := .cells #[.int .i64 a1_0, .string a1_1, .int .i64 a1_2, .bool a1_3, .int .i64 a1_4, .string a1_5, .int .i64 a1_6, .string a1_7, .slice A1_8 l1_8.length c1_8] 27 (0, 0)) (by (with_reducible repeat (first | refine blk_drewN ?_ _ | refine blk_drew ?_ | refine blk_alloc ?_ _)); exact BK220.out) hb); have n1_ := Aside0.mk (below_step (by repeat (first | (with_reducible first | exact HB.out | apply below_alloc | apply pw_below_drewN | apply below_drew1 | refine below_set ?_ GE220.out) | exact HB.out)) hb); have n2_ := Aside0.mk (hbox); have n3_ := Aside0.mk ((by rw [hg]; exact (below_size (by repeat (first | (with_reducible first | exact HB.out | apply below_alloc | apply pw_below_drewN | apply below_drew1 | refine below_set ?_ GE220.out) | exact HB.out))) : w.heap.size ≤ gb221)); have n4_ := Aside0.mk ((by rw [hg]; exact (below_size (by repeat (first | (with_reducible first | exact HB.out | apply below_alloc | apply pw_below_drewN | apply below_drew1 | refine below_set ?_ GE220.out) | exact HB.out))) : w.heap.size ≤ gb221)); have n5_ := Aside0.mk ((by rw [hg]; exact Nat.ne_of_lt (blk_lt (g := gb220) (o := .cells #[.int .i64 a1_0, .string a1_1, .int .i64 a1_2, .bool a1_3, .int .i64 a1_4, .string a1_5, .int .i64 a1_6, .string a1_7, .slice A1_8 l1_8.length c1_8] 27 (0, 0)) (by (with_reducible repeat (first | refine blk_drewN ?_ _ | refine blk_drew ?_ | refine blk_alloc ?_ _)); exact BK220.out)) : gb220 ≠ gb221)); have n6_ := Aside0.mk ((by rw [hg]; exact Nat.ne_of_gt (blk_lt (g := gb220) (o := .cells #[.int .i64 a1_0, .string a1_1, .int .i64 a1_2, .bool a1_3, .int .i64 a1_4, .string a1_5, .int .i64 a1_6, .string a1_7, .slice A1_8 l1_8.length c1_8] 27 (0, 0)) (by (with_reducible repeat (first | refine blk_drewN ?_ _ | refine blk_drew ?_ | refine blk_alloc ?_ _)); exact BK220.out)) : gb221 ≠ gb220)); clear BK220; clear HB; have BK220 := n0_; have HB := n1_; have BK221 := n2_; have GW221 := n3_; have GE221 := n4_; have NB220_221 := n5_; have NB221_220 := n6_; clear n0_ n1_ n2_ n3_ n4_ n5_ n6_; clear hb hbox hg; have hnb9 := NB220_221.out; have hnc9 := NB221_220.out; have hcz10_0 : w8.cell? ⟨gb220, 0, none⟩ = some (.int .i64 a1_0) := (blk_cell BK220.out 0).trans rfl; have hcz10_1 : w8.cell? ⟨gb220, 1, none⟩ = some (.string a1_1) := (blk_cell BK220.out 1).trans rfl; have hcz10_2 : w8.cell? ⟨gb220, 2, none⟩ = some (.int .i64 a1_2) := (blk_cell BK220.out 2).trans rfl; have hcz10_3 : w8.cell? ⟨gb220, 3, none⟩ = some (.bool a1_3) := (blk_cell BK220.out 3).trans rfl; have hcz10_4 : w8.cell? ⟨gb220, 4, none⟩ = some (.int .i64 a1_4) := (blk_cell BK220.out 4).trans rfl; have hcz10_5 : w8.cell? ⟨gb220, 5, none⟩ = some (.string a1_5) := (blk_cell BK220.out 5).trans rfl; have hcz10_6 : w8.cell? ⟨gb220, 6, none⟩ = some (.int .i64 a1_6) := (blk_cell BK220.out 6).trans rfl; have hcz10_7 : w8.cell? ⟨gb220, 7, none⟩ = some (.string a1_7) := (blk_cell BK220.out 7).trans rfl; have hcz10_8 : w8.cell? ⟨gb220, 8, none⟩ = some (.slice A1_8 l1_8.length c1_8) := (blk_cell BK220.out 8).trans rfl; have hfz10_0 := blk_frozen BK220.out 0; have hfz10_1 := blk_frozen BK220.out 1; have hfz10_2 := blk_frozen BK220.out 2; have hfz10_3 := blk_frozen BK220.out 3; have hfz10_4 := blk_frozen BK220.out 4; have hfz10_5 := blk_frozen BK220.out 5; have hfz10_6 := blk_frozen BK220.out 6; have hfz10_7 := blk_frozen BK220.out 7; have hfz10_8 := blk_frozen BK220.out 8) | ((with_reducible refine gate_callee (f := 27) rfl ?_); refine goesL_ (some 13) rfl rfl Try.func27 (by kernel_rfl) rfl #[.slice A0 l0.length c0, .agg #[.int .i64 a1_0, .string a1_1, .int .i64 a1_2, .bool a1_3, .int .i64 a1_4, .string a1_5, .int .i64 a1_6, .string a1_7, .slice A1_8 l1_8.length c1_8]] rfl (by (try simp only [List.map_toArray, List.map_cons, List.map_nil]); first | done | rfl | (simp only [List.length_drop, List.length_take]; rfl)) ?_; (with_reducible refine (pred_Fits.calls _ _ l0 a1_0 a1_1 a1_2 a1_3 a1_4 a1_5 a1_6 a1_7 _ _ l1_8 t222 _ ?side1 ?side2 ?side3 ?side4 A4.out).mono ?_); (case side1 => repeat (first | exact (Kd.C_below HR0.out HB.out) | (with_reducible refine Kd.C_alloc ?_ _) | (with_reducible refine Kd.C_drewN ?_ _) | (with_reducible refine Kd.C_drew ?_))); (case side2 => exact HC0.out); (case side3 => repeat (first | exact (Kd.C_below HR1_8.out HB.out) | (with_reducible refine Kd.C_alloc ?_ _) | (with_reducible refine Kd.C_drewN ?_ _) | (with_reducible refine Kd.C_drew ?_))); (case side4 => exact HC1_8.out); rintro e w11 ⟨rfl, hb⟩; refine ⟨_, rfl, ?_⟩; have n0_ := Aside0.mk (blk_below (g := gb220) (o := .cells #[.int .i64 a1_0, .string a1_1, .int .i64 a1_2, .bool a1_3, .int .i64 a1_4, .string a1_5, .int .i64 a1_6, .string a1_7, .slice A1_8 l1_8.length c1_8] 27 (0, 0)) (by (with_reducible repeat (first | refine blk_drewN ?_ _ | refine blk_drew ?_ | refine blk_alloc ?_ _)); exact BK220.out) hb); have n1_ := Aside0.mk (blk_below (g := gb221) (o := .cells #[.bool false, .bool false, .bool false] 35 (0, 0)) (by (with_reducible repeat (first | refine blk_drewN ?_ _ | refine blk_drew ?_ | refine blk_alloc ?_ _)); exact BK221.out) hb); have n2_ := Aside0.mk (below_step (by repeat (first | (with_reducible first | exact HB.out | apply below_alloc | apply pw_below_drewN | apply below_drew1 | refine below_set ?_ GE220.out | refine below_set ?_ GE221.out) | exact HB.out)) hb); clear BK220; clear BK221; clear HB; have BK220 := n0_; have BK221 := n1_; have HB := n2_; clear n0_ n1_ n2_; (try clear hb); (try clear hb2); (try clear hk); (try clear hi)))
   go_loopg [26] k (fun kq v26 w' => ∃ (x26_1 : Int) (x222000_1 : Bool) (x222001_1 : Bool) (x222002_1 : Bool), v26 = .int .i64 x26_1 ∧ Aside0 (prune_Ask.l0 kq l0 l2 l2 (l2.length : Int) x26_1 a1_0 a1_1 a1_2 a1_3 a1_4 a1_5 a1_6 a1_7 l1_8 = some (r1, r2, r3, r4)) ∧ Aside0 (kq ≤ k) ∧ Aside0 (w'.heap[gb220]? = some (.cells #[.int .i64 a1_0, .string a1_1, .int .i64 a1_2, .bool a1_3, .int .i64 a1_4, .string a1_5, .int .i64 a1_6, .string a1_7, (.slice A1_8 l1_8.length c1_8)] 27 (0, 0))) ∧ Aside0 (w'.heap[gb221]? = some (.cells #[.bool x222000_1, .bool x222001_1, .bool x222002_1] 35 (0, 0))) ∧ Aside0 (Below w.heap.size w w'))
   case atStart => exact ⟨(0), (false), (false), (false), (by first | rfl | (simp; done) | (simp [*]; done)), H', ⟨Nat.le_refl _⟩, ⟨by (with_reducible repeat (first | refine blk_drewN ?_ _ | refine blk_drew ?_ | refine blk_alloc ?_ _)); exact BK220.out⟩, ⟨by (with_reducible repeat (first | refine blk_drewN ?_ _ | refine blk_drew ?_ | refine blk_alloc ?_ _)); exact BK221.out⟩, ⟨by repeat (first | (with_reducible first | exact HB.out | apply below_alloc | apply pw_below_drewN | apply below_drew1 | refine below_set ?_ GE220.out | refine below_set ?_ GE221.out) | exact HB.out)⟩⟩
   case round =>
    clear H'
    try clear c1
    try clear c2
    try clear p2
    try clear c5
    try clear c5b0
    try clear c5b1
    try clear c6
    try clear c6b0
    try clear c6b1
    try clear c6b2
    try clear c9
    try clear hcz10_0 hcz10_1 hcz10_2 hcz10_3 hcz10_4 hcz10_5 hcz10_6 hcz10_7 hcz10_8
    try clear hfz10_0 hfz10_1 hfz10_2 hfz10_3 hfz10_4 hfz10_5 hfz10_6 hfz10_7 hfz10_8
    obtain ⟨x26_1, x222000_1, x222001_1, x222002_1, rfl, HA, HK1, BK220, BK221, HB⟩ := hrel
    cases gk with
    | zero => exact absurd HA.out (by simp [prune_Ask.l0])
    | succ k1 =>
     have H := HA.out
     clear HA
     simp only [prune_Ask.l0] at H
     by_cases c12 : x26_1 < (l2.length : Int)
     ·rw [if_pos c12] at H
      have c12b0 : decide (x26_1 < (l2.length : Int)) = true := decide_eq_true c12
      clear c12
      by_cases c13 : 0 ≤ x26_1
      ·rw [if_pos c13] at H
       have c13b0 : decide (0 ≤ x26_1) = true := decide_eq_true c13
       clear c13
       by_cases c14 : x26_1 < (l2.length : Int)
       ·rw [if_pos c14] at H
        have c14b0 : decide (x26_1 < (l2.length : Int)) = true := decide_eq_true c14
        clear c14
        by_cases c15 : x26_1 < (l0.length : Int)
        ·rw [if_pos c15] at H
         have c15b0 : decide (x26_1 < (l0.length : Int)) = true := decide_eq_true c15
         clear c15
         replace H := Option.bind_eq_some_iff.mp H
         obtain ⟨t226, A160, H⟩ := H
         replace H : (if t226 = true then (prune_Ask.l0 k1 l0 l2 l2 (l2.length : Int) (wrap64 (x26_1 + 1)) a1_0 a1_1 a1_2 a1_3 a1_4 a1_5 a1_6 a1_7 l1_8) else (some (false, false, false, 1))) = some (r1, r2, r3, r4) := H
         have A16 := Aside0.mk A160
         clear A160
         by_cases c17 : t226 = true
         ·subst c17
          have H1 : (prune_Ask.l0 k1 l0 l2 l2 (l2.length : Int) (wrap64 (x26_1 + 1)) a1_0 a1_1 a1_2 a1_3 a1_4 a1_5 a1_6 a1_7 l1_8) = some (r1, r2, r3, r4) := by rw [if_pos rfl] at H; exact H
          clear H
          have H := H1
          clear H1
          have H' := Aside0.mk H
          clear H
          have p223 : 0 ≤ (x26_1 : Int) := of_decide_eq_true (by first | (with_reducible assumption) | assumption)
          have q223 : x26_1 < (l2.length : Int) := of_decide_eq_true (by first | (with_reducible assumption) | assumption)
          obtain ⟨ad223, e223, hx223_0, hx223_1, hx223_2, hx223_3, hx223_4, hx223_5, hx223_6, hx223_7⟩ := at_T33 HR2.out x26_1 p223 q223
          cases e223
          replace hx223_0 := (HB.out.cell (World.block_lt_of_cell? w _ hx223_0)).trans hx223_0
          replace hx223_1 := (HB.out.cell (World.block_lt_of_cell? w _ hx223_1)).trans hx223_1
          replace hx223_2 := (HB.out.cell (World.block_lt_of_cell? w _ hx223_2)).trans hx223_2
          replace hx223_3 := (HB.out.cell (World.block_lt_of_cell? w _ hx223_3)).trans hx223_3
          replace hx223_4 := (HB.out.cell (World.block_lt_of_cell? w _ hx223_4)).trans hx223_4
          replace hx223_5 := (HB.out.cell (World.block_lt_of_cell? w _ hx223_5)).trans hx223_5
          replace hx223_6 := (HB.out.cell (World.block_lt_of_cell? w _ hx223_6)).trans hx223_6
          replace hx223_7 := (HB.out.cell (World.block_lt_of_cell? w _ hx223_7)).trans hx223_7
          replace p223 := eq_true p223
          replace q223 := eq_true q223
          try go_wp2_with (first | ((with_reducible refine gate_dst (N := 10) rfl ?_); refine box_event ?hg (N := 10) ?hd (cs := #[.int .i64 0, .int .i64 0, .bool false, .int .i64 0, .string (⟨#[]⟩ : ByteArray), .bool false, .int .i64 0, .string (⟨#[]⟩ : ByteArray)]) (t := 33) ?hr ?_; (case hd => rfl); (case hg => rfl); (case hr => first | (go_simp; done) | (go_simp; rfl)); intro gb224 hg w18 hbox hb; have n0_ := Aside0.mk (blk_below (g := gb220) (o := .cells #[.int .i64 a1_0, .string a1_1, .int .i64 a1_2, .bool a1_3, .int .i64 a1_4, .string a1_5, .int .i64 a1_6, .string a1_7, .slice A1_8 l1_8.length c1_8] 27 (0, 0)) (by (with_reducible repeat (first | refine blk_drewN ?_ _ | refine blk_drew ?_ | refine blk_alloc ?_ _)); exact BK220.out) hb); have n1_ := Aside0.mk (blk_below (g := gb221) (o := .cells #[.bool x222000_1, .bool x222001_1, .bool x222002_1] 35 (0, 0)) (by (with_reducible repeat (first | refine blk_drewN ?_ _ | refine blk_drew ?_ | refine blk_alloc ?_ _)); exact BK221.out) hb); have n2_ := Aside0.mk (below_step (by repeat (first | (with_reducible first | exact HB.out | apply below_alloc | apply pw_below_drewN | apply below_drew1 | refine below_set ?_ GE220.out | refine below_set ?_ GE221.out) | exact HB.out)) hb); have n3_ := Aside0.mk (hbox); have n4_ := Aside0.mk ((by rw [hg]; exact (below_size (by repeat (first | (with_reducible first | exact HB.out | apply below_alloc | apply pw_below_drewN | apply below_drew1 | refine below_set ?_ GE220.out | refine below_set ?_ GE221.out) | exact HB.out))) : w.heap.size ≤ gb224)); have n5_ := Aside0.mk ((by rw [hg]; exact (below_size (by repeat (first | (with_reducible first | exact HB.out | apply below_alloc | apply pw_below_drewN | apply below_drew1 | refine below_set ?_ GE220.out | refine below_set ?_ GE221.out) | exact HB.out))) : w.heap.size ≤ gb224)); have n6_ := Aside0.mk ((by rw [hg]; exact Nat.ne_of_lt (blk_lt (g := gb220) (o := .cells #[.int .i64 a1_0, .string a1_1, .int .i64 a1_2, .bool a1_3, .int .i64 a1_4, .string a1_5, .int .i64 a1_6, .string a1_7, .slice A1_8 l1_8.length c1_8] 27 (0, 0)) (by (with_reducible repeat (first | refine blk_drewN ?_ _ | refine blk_drew ?_ | refine blk_alloc ?_ _)); exact BK220.out)) : gb220 ≠ gb224)); have n7_ := Aside0.mk ((by rw [hg]; exact Nat.ne_of_gt (blk_lt (g := gb220) (o := .cells #[.int .i64 a1_0, .string a1_1, .int .i64 a1_2, .bool a1_3, .int .i64 a1_4, .string a1_5, .int .i64 a1_6, .string a1_7, .slice A1_8 l1_8.length c1_8] 27 (0, 0)) (by (with_reducible repeat (first | refine blk_drewN ?_ _ | refine blk_drew ?_ | refine blk_alloc ?_ _)); exact BK220.out)) : gb224 ≠ gb220)); have n8_ := Aside0.mk ((by rw [hg]; exact Nat.ne_of_lt (blk_lt (g := gb221) (o := .cells #[.bool x222000_1, .bool x222001_1, .bool x222002_1] 35 (0, 0)) (by (with_reducible repeat (first | refine blk_drewN ?_ _ | refine blk_drew ?_ | refine blk_alloc ?_ _)); exact BK221.out)) : gb221 ≠ gb224)); have n9_ := Aside0.mk ((by rw [hg]; exact Nat.ne_of_gt (blk_lt (g := gb221) (o := .cells #[.bool x222000_1, .bool x222001_1, .bool x222002_1] 35 (0, 0)) (by (with_reducible repeat (first | refine blk_drewN ?_ _ | refine blk_drew ?_ | refine blk_alloc ?_ _)); exact BK221.out)) : gb224 ≠ gb221)); clear BK220; clear BK221; clear HB; have BK220 := n0_; have BK221 := n1_; have HB := n2_; have BK224 := n3_; have GW224 := n4_; have GE224 := n5_; have NB220_224 := n6_; have NB224_220 := n7_; have NB221_224 := n8_; have NB224_221 := n9_; clear n0_ n1_ n2_ n3_ n4_ n5_ n6_ n7_ n8_ n9_; clear hb hbox hg; have hnb19 := NB224_220.out; have hnc19 := NB220_224.out; have hnb20 := NB224_221.out; have hnc20 := NB221_224.out; have hcz21_0 : w18.cell? ⟨gb224, 0, none⟩ = some (.int .i64 0) := (blk_cell BK224.out 0).trans rfl; have hcz21_1 : w18.cell? ⟨gb224, 1, none⟩ = some (.int .i64 0) := (blk_cell BK224.out 1).trans rfl; have hcz21_2 : w18.cell? ⟨gb224, 2, none⟩ = some (.bool false) := (blk_cell BK224.out 2).trans rfl; have hcz21_3 : w18.cell? ⟨gb224, 3, none⟩ = some (.int .i64 0) := (blk_cell BK224.out 3).trans rfl; have hcz21_4 : w18.cell? ⟨gb224, 4, none⟩ = some (.string (⟨#[]⟩ : ByteArray)) := (blk_cell BK224.out 4).trans rfl; have hcz21_5 : w18.cell? ⟨gb224, 5, none⟩ = some (.bool false) := (blk_cell BK224.out 5).trans rfl; have hcz21_6 : w18.cell? ⟨gb224, 6, none⟩ = some (.int .i64 0) := (blk_cell BK224.out 6).trans rfl; have hcz21_7 : w18.cell? ⟨gb224, 7, none⟩ = some (.string (⟨#[]⟩ : ByteArray)) := (blk_cell BK224.out 7).trans rfl; have hfz21_0 := blk_frozen BK224.out 0; have hfz21_1 := blk_frozen BK224.out 1; have hfz21_2 := blk_frozen BK224.out 2; have hfz21_3 := blk_frozen BK224.out 3; have hfz21_4 := blk_frozen BK224.out 4; have hfz21_5 := blk_frozen BK224.out 5; have hfz21_6 := blk_frozen BK224.out 6; have hfz21_7 := blk_frozen BK224.out 7))
          have n0_ : Aside0 (((((((((w18.setCell ⟨gb224, 0, none⟩ (.int .i64 ((rd_T33 l2 x26_1).f0))).setCell ⟨gb224, 1, none⟩ (.int .i64 ((rd_T33 l2 x26_1).f1))).setCell ⟨gb224, 2, none⟩ (.bool ((rd_T33 l2 x26_1).f2.f0))).setCell ⟨gb224, 3, none⟩ (.int .i64 ((rd_T33 l2 x26_1).f2.f1))).setCell ⟨gb224, 4, none⟩ (.string ((rd_T33 l2 x26_1).f2.f2))).setCell ⟨gb224, 5, none⟩ (.bool ((rd_T33 l2 x26_1).f3.f0))).setCell ⟨gb224, 6, none⟩ (.int .i64 ((rd_T33 l2 x26_1).f3.f1))).setCell ⟨gb224, 7, none⟩ (.string ((rd_T33 l2 x26_1).f3.f2))).heap[gb220]? = some (.cells #[.int .i64 a1_0, .string a1_1, .int .i64 a1_2, .bool a1_3, .int .i64 a1_4, .string a1_5, .int .i64 a1_6, .string a1_7, .slice A1_8 l1_8.length c1_8] 27 (0, 0))) := ⟨by (iterate 8 ((with_reducible repeat (first | refine blk_drewN ?_ _ | refine blk_drew ?_ | refine blk_alloc ?_ _)); refine blk_far ?_ NB220_224.out _)); (with_reducible repeat (first | refine blk_drewN ?_ _ | refine blk_drew ?_ | refine blk_alloc ?_ _)); exact BK220.out⟩
          have n1_ : Aside0 (((((((((w18.setCell ⟨gb224, 0, none⟩ (.int .i64 ((rd_T33 l2 x26_1).f0))).setCell ⟨gb224, 1, none⟩ (.int .i64 ((rd_T33 l2 x26_1).f1))).setCell ⟨gb224, 2, none⟩ (.bool ((rd_T33 l2 x26_1).f2.f0))).setCell ⟨gb224, 3, none⟩ (.int .i64 ((rd_T33 l2 x26_1).f2.f1))).setCell ⟨gb224, 4, none⟩ (.string ((rd_T33 l2 x26_1).f2.f2))).setCell ⟨gb224, 5, none⟩ (.bool ((rd_T33 l2 x26_1).f3.f0))).setCell ⟨gb224, 6, none⟩ (.int .i64 ((rd_T33 l2 x26_1).f3.f1))).setCell ⟨gb224, 7, none⟩ (.string ((rd_T33 l2 x26_1).f3.f2))).heap[gb221]? = some (.cells #[.bool x222000_1, .bool x222001_1, .bool x222002_1] 35 (0, 0))) := ⟨by (iterate 8 ((with_reducible repeat (first | refine blk_drewN ?_ _ | refine blk_drew ?_ | refine blk_alloc ?_ _)); refine blk_far ?_ NB221_224.out _)); (with_reducible repeat (first | refine blk_drewN ?_ _ | refine blk_drew ?_ | refine blk_alloc ?_ _)); exact BK221.out⟩
          have n2_ : Aside0 (((((((((w18.setCell ⟨gb224, 0, none⟩ (.int .i64 ((rd_T33 l2 x26_1).f0))).setCell ⟨gb224, 1, none⟩ (.int .i64 ((rd_T33 l2 x26_1).f1))).setCell ⟨gb224, 2, none⟩ (.bool ((rd_T33 l2 x26_1).f2.f0))).setCell ⟨gb224, 3, none⟩ (.int .i64 ((rd_T33 l2 x26_1).f2.f1))).setCell ⟨gb224, 4, none⟩ (.string ((rd_T33 l2 x26_1).f2.f2))).setCell ⟨gb224, 5, none⟩ (.bool ((rd_T33 l2 x26_1).f3.f0))).setCell ⟨gb224, 6, none⟩ (.int .i64 ((rd_T33 l2 x26_1).f3.f1))).setCell ⟨gb224, 7, none⟩ (.string ((rd_T33 l2 x26_1).f3.f2))).heap[gb224]? = some (.cells #[.int .i64 ((rd_T33 l2 x26_1).f0), .int .i64 ((rd_T33 l2 x26_1).f1), .bool ((rd_T33 l2 x26_1).f2.f0), .int .i64 ((rd_T33 l2 x26_1).f2.f1), .string ((rd_T33 l2 x26_1).f2.f2), .bool ((rd_T33 l2 x26_1).f3.f0), .int .i64 ((rd_T33 l2 x26_1).f3.f1), .string ((rd_T33 l2 x26_1).f3.f2)] 33 (0, 0))) := ⟨by (with_reducible repeat (first | refine blk_drewN ?_ _ | refine blk_drew ?_ | refine blk_alloc ?_ _)); apply blk_all8_; (with_reducible repeat (first | refine blk_drewN ?_ _ | refine blk_drew ?_ | refine blk_alloc ?_ _)); exact BK224.out⟩
          have n3_ : Aside0 (Below w.heap.size w ((((((((w18.setCell ⟨gb224, 0, none⟩ (.int .i64 ((rd_T33 l2 x26_1).f0))).setCell ⟨gb224, 1, none⟩ (.int .i64 ((rd_T33 l2 x26_1).f1))).setCell ⟨gb224, 2, none⟩ (.bool ((rd_T33 l2 x26_1).f2.f0))).setCell ⟨gb224, 3, none⟩ (.int .i64 ((rd_T33 l2 x26_1).f2.f1))).setCell ⟨gb224, 4, none⟩ (.string ((rd_T33 l2 x26_1).f2.f2))).setCell ⟨gb224, 5, none⟩ (.bool ((rd_T33 l2 x26_1).f3.f0))).setCell ⟨gb224, 6, none⟩ (.int .i64 ((rd_T33 l2 x26_1).f3.f1))).setCell ⟨gb224, 7, none⟩ (.string ((rd_T33 l2 x26_1).f3.f2)))) := ⟨by repeat (first | (with_reducible first | exact HB.out | apply below_alloc | apply pw_below_drewN | apply below_drew1 | refine below_set ?_ GE220.out | refine below_set ?_ GE221.out | refine below_set ?_ GE224.out) | exact HB.out)⟩
          (try clear BK220)
          (try clear BK221)
          (try clear BK224)
          (try clear HB)
          generalize ((((((((w18.setCell ⟨gb224, 0, none⟩ (.int .i64 ((rd_T33 l2 x26_1).f0))).setCell ⟨gb224, 1, none⟩ (.int .i64 ((rd_T33 l2 x26_1).f1))).setCell ⟨gb224, 2, none⟩ (.bool ((rd_T33 l2 x26_1).f2.f0))).setCell ⟨gb224, 3, none⟩ (.int .i64 ((rd_T33 l2 x26_1).f2.f1))).setCell ⟨gb224, 4, none⟩ (.string ((rd_T33 l2 x26_1).f2.f2))).setCell ⟨gb224, 5, none⟩ (.bool ((rd_T33 l2 x26_1).f3.f0))).setCell ⟨gb224, 6, none⟩ (.int .i64 ((rd_T33 l2 x26_1).f3.f1))).setCell ⟨gb224, 7, none⟩ (.string ((rd_T33 l2 x26_1).f3.f2))) = w22 at n0_ n1_ n2_ n3_ ⊢
          have BK220 := n0_
          have BK221 := n1_
          have BK224 := n2_
          have HB := n3_
          clear n0_ n1_ n2_ n3_
          have n0_ := Aside0.mk (blk_drew BK220.out)
          have n1_ := Aside0.mk (blk_drew BK221.out)
          have n2_ := Aside0.mk (blk_drew BK224.out)
          have n3_ := Aside0.mk (below_drew1 HB.out)
          clear BK220
          clear BK221
          clear BK224
          clear HB
          have BK220 := n0_
          have BK221 := n1_
          have BK224 := n2_
          have HB := n3_
          clear n0_ n1_ n2_ n3_
          have p225 : 0 ≤ (x26_1 : Int) := of_decide_eq_true (by first | (with_reducible assumption) | assumption)
          have q225 : x26_1 < (l0.length : Int) := of_decide_eq_true (by first | (with_reducible assumption) | assumption)
          obtain ⟨ad225, e225, hx225_0, hx225_1, hx225_2⟩ := at_T64 HR0.out x26_1 p225 q225
          have hw225_2 := hx225_2
          have hw225_1 := hx225_1
          have hw225_0 := hx225_0
          cases e225
          replace hx225_0 := (HB.out.cell (World.block_lt_of_cell? w _ hx225_0)).trans hx225_0
          replace hx225_1 := (HB.out.cell (World.block_lt_of_cell? w _ hx225_1)).trans hx225_1
          replace hx225_2 := (HB.out.cell (World.block_lt_of_cell? w _ hx225_2)).trans hx225_2
          replace p225 := eq_true p225
          replace q225 := eq_true q225
          refine start_ (n := 8) (S := fun w' => w'.cell? ⟨gb224, 0, none⟩ = some (.int .i64 ((rd_T33 l2 x26_1).f0)) ∧ w'.cell? ⟨gb224, 1, none⟩ = some (.int .i64 ((rd_T33 l2 x26_1).f1)) ∧ w'.cell? ⟨gb224, 2, none⟩ = some (.bool ((rd_T33 l2 x26_1).f2.f0)) ∧ w'.cell? ⟨gb224, 3, none⟩ = some (.int .i64 ((rd_T33 l2 x26_1).f2.f1)) ∧ w'.cell? ⟨gb224, 4, none⟩ = some (.string ((rd_T33 l2 x26_1).f2.f2)) ∧ w'.cell? ⟨gb224, 5, none⟩ = some (.bool ((rd_T33 l2 x26_1).f3.f0)) ∧ w'.cell? ⟨gb224, 6, none⟩ = some (.int .i64 ((rd_T33 l2 x26_1).f3.f1)) ∧ w'.cell? ⟨gb224, 7, none⟩ = some (.string ((rd_T33 l2 x26_1).f3.f2)) ∧ w'.cell? (ad225.add ((x26_1).toNat * 3)) = some (.string ((rd_T64 l0 x26_1).f0)) ∧ w'.cell? ⟨(ad225.add ((x26_1).toNat * 3)).block, (ad225.add ((x26_1).toNat * 3)).off + 1, none⟩ = some (.int .i64 ((rd_T64 l0 x26_1).f1)) ∧ w'.cell? ⟨(ad225.add ((x26_1).toNat * 3)).block, (ad225.add ((x26_1).toNat * 3)).off + 2, none⟩ = some (.bool ((rd_T64 l0 x26_1).f2))) (ds := []) #[false, false, false, false, false, false, false, false] (by kernel_rfl) rfl rfl ⟨(blk_cell BK224.out 0).trans rfl, (blk_cell BK224.out 1).trans rfl, (blk_cell BK224.out 2).trans rfl, (blk_cell BK224.out 3).trans rfl, (blk_cell BK224.out 4).trans rfl, (blk_cell BK224.out 5).trans rfl, (blk_cell BK224.out 6).trans rfl, (blk_cell BK224.out 7).trans rfl, ((HB.out.cell (World.block_lt_of_cell? w _ hw225_0)).trans hw225_0), ((HB.out.cell (World.block_lt_of_cell? w _ hw225_1)).trans hw225_1), ((HB.out.cell (World.block_lt_of_cell? w _ hw225_2)).trans hw225_2)⟩ (fun hHeld => ?_); refine with_tabW prune_Ask.tab9 prune_Ask.bits9 (fun HT_ HW_ => ?_)
          generalize w22.drew = w23 at BK220 BK221 BK224 HB hx225_0 hx225_1 hx225_2 hHeld ⊢
          refine pure_ (i := 0) (N := some 31) (v := ?_) (a' := ?_) #[true, false, false, false, false, false, false, false] rfl rfl (any_of HT_.out (by kernel_rfl)) (fun _ _ _ h => h) (Or.inl ⟨by rfl, ?_⟩) ?_ ?_
          rotate_left
          ·intro w'
           go_simp
           with_reducible rfl
          rotate_left
          ·simp only [Act.put, List.setIfInBounds_toArray, List.set_cons_zero, List.set_cons_succ, i64_w, i32_w]
           rfl
          refine pure_ (i := 1) (N := some 32) (v := ?_) (a' := ?_) #[true, true, false, false, false, false, false, false] rfl rfl (any_of HT_.out (by kernel_rfl)) (fun _ _ _ h => h) (Or.inl ⟨by rfl, ?_⟩) ?_ ?_
          rotate_left
          ·intro w'
           go_simp
           with_reducible rfl
          rotate_left
          ·simp only [Act.put, List.setIfInBounds_toArray, List.set_cons_zero, List.set_cons_succ, i64_w, i32_w]
           rfl
          refine pure_ (i := 2) (N := some 33) (v := ?_) (a' := ?_) #[true, true, true, false, false, false, false, false] rfl rfl (any_of HT_.out (by kernel_rfl)) (fun _ _ _ h => h) (Or.inl ⟨by rfl, ?_⟩) ?_ ?_
          rotate_left
          ·intro w'
           go_simp
           with_reducible rfl
          rotate_left
          ·simp only [Act.put, List.setIfInBounds_toArray, List.set_cons_zero, List.set_cons_succ, i64_w, i32_w]
           rfl
          refine pure_ (i := 3) (N := some 34) (v := ?_) (a' := ?_) #[true, true, true, true, false, false, false, false] rfl rfl (any_of HT_.out (by kernel_rfl)) (fun _ _ _ h => h) (Or.inl ⟨by rfl, ?_⟩) ?_ ?_
          rotate_left
          ·intro w'
           go_simp
           with_reducible rfl
          rotate_left
          ·simp only [Act.put, List.setIfInBounds_toArray, List.set_cons_zero, List.set_cons_succ, i64_w, i32_w]
           rfl
          refine take_ (i := 4) (N := some 35) (v := ?_) (a' := ?_) #[true, true, true, true, true, false, false, false] rfl rfl (take_ofW HT_.out HW_.out (by kernel_rfl)) (fun _ _ _ h => h) (Or.inl ⟨by rfl, ?_⟩) hHeld ?_ ?_
          rotate_left
          ·rintro w' ⟨s0, s1, s2, s3, s4, s5, s6, s7, s8, s9, s10⟩
           go_simp
           with_reducible rfl
          rotate_left
          ·simp only [Act.put, List.setIfInBounds_toArray, List.set_cons_zero, List.set_cons_succ, i64_w, i32_w]
           rfl
          refine take_ (i := 5) (N := some 36) (v := ?_) (a' := ?_) #[true, true, true, true, true, true, false, false] rfl rfl (take_ofW HT_.out HW_.out (by kernel_rfl)) (fun _ _ _ h => h) (Or.inl ⟨by rfl, ?_⟩) hHeld ?_ ?_
          rotate_left
          ·rintro w' ⟨s0, s1, s2, s3, s4, s5, s6, s7, s8, s9, s10⟩
           go_simp
           with_reducible rfl
          rotate_left
          ·simp only [Act.put, List.setIfInBounds_toArray, List.set_cons_zero, List.set_cons_succ, i64_w, i32_w]
           rfl
          refine one_ (i := 6) (N := some 37) #[true, true, true, true, true, true, true, false] rfl rfl (one_of HT_.out (by kernel_rfl)) (by decide) (fun K hK => ?_)
          refine goes_ Try.func28 (by kernel_rfl) rfl #[.int .i64 ((rd_T64 l0 x26_1).f1), .agg #[.int .i64 ((rd_T33 l2 x26_1).f0), .int .i64 ((rd_T33 l2 x26_1).f1), .bool ((rd_T33 l2 x26_1).f2.f0), .int .i64 ((rd_T33 l2 x26_1).f2.f1), .string ((rd_T33 l2 x26_1).f2.f2), .bool ((rd_T33 l2 x26_1).f3.f0), .int .i64 ((rd_T33 l2 x26_1).f3.f1), .string ((rd_T33 l2 x26_1).f3.f2)]] (by rfl) rfl rfl (by (try simp only [List.map_toArray, List.map_cons, List.map_nil]); first | done | rfl | (simp only [List.length_drop, List.length_take]; rfl)) ?_
          with_reducible refine (zone_May.calls k1 ((rd_T64 l0 x26_1).f1) ((rd_T33 l2 x26_1).f0) ((rd_T33 l2 x26_1).f1) ((rd_T33 l2 x26_1).f2.f0) ((rd_T33 l2 x26_1).f2.f1) ((rd_T33 l2 x26_1).f2.f2) ((rd_T33 l2 x26_1).f3.f0) ((rd_T33 l2 x26_1).f3.f1) ((rd_T33 l2 x26_1).f3.f2) true _ A16.out).mono ?_
          rintro e w24 ⟨rfl, hb⟩
          refine ⟨_, rfl, ?_⟩
          have n0_ := Aside0.mk (blk_below (g := gb220) (o := .cells #[.int .i64 a1_0, .string a1_1, .int .i64 a1_2, .bool a1_3, .int .i64 a1_4, .string a1_5, .int .i64 a1_6, .string a1_7, .slice A1_8 l1_8.length c1_8] 27 (0, 0)) (by (with_reducible repeat (first | refine blk_drewN ?_ _ | refine blk_drew ?_ | refine blk_alloc ?_ _)); exact BK220.out) hb)
          have n1_ := Aside0.mk (blk_below (g := gb221) (o := .cells #[.bool x222000_1, .bool x222001_1, .bool x222002_1] 35 (0, 0)) (by (with_reducible repeat (first | refine blk_drewN ?_ _ | refine blk_drew ?_ | refine blk_alloc ?_ _)); exact BK221.out) hb)
          have n2_ := Aside0.mk (blk_below (g := gb224) (o := .cells #[.int .i64 ((rd_T33 l2 x26_1).f0), .int .i64 ((rd_T33 l2 x26_1).f1), .bool ((rd_T33 l2 x26_1).f2.f0), .int .i64 ((rd_T33 l2 x26_1).f2.f1), .string ((rd_T33 l2 x26_1).f2.f2), .bool ((rd_T33 l2 x26_1).f3.f0), .int .i64 ((rd_T33 l2 x26_1).f3.f1), .string ((rd_T33 l2 x26_1).f3.f2)] 33 (0, 0)) (by (with_reducible repeat (first | refine blk_drewN ?_ _ | refine blk_drew ?_ | refine blk_alloc ?_ _)); exact BK224.out) hb)
          have n3_ := Aside0.mk (below_step (by repeat (first | (with_reducible first | exact HB.out | apply below_alloc | apply pw_below_drewN | apply below_drew1 | refine below_set ?_ GE220.out | refine below_set ?_ GE221.out | refine below_set ?_ GE224.out) | exact HB.out)) hb)
          clear BK220
          clear BK221
          clear BK224
          clear HB
          have BK220 := n0_
          have BK221 := n1_
          have BK224 := n2_
          have HB := n3_
          clear n0_ n1_ n2_ n3_
          (try clear hb)
          (try clear hb2)
          (try clear hk)
          (try clear hi)
          refine hK.out _ _ ⟨(blk_cell BK224.out 0).trans rfl, (blk_cell BK224.out 1).trans rfl, (blk_cell BK224.out 2).trans rfl, (blk_cell BK224.out 3).trans rfl, (blk_cell BK224.out 4).trans rfl, (blk_cell BK224.out 5).trans rfl, (blk_cell BK224.out 6).trans rfl, (blk_cell BK224.out 7).trans rfl, ((HB.out.cell (World.block_lt_of_cell? w _ hw225_0)).trans hw225_0), ((HB.out.cell (World.block_lt_of_cell? w _ hw225_1)).trans hw225_1), ((HB.out.cell (World.block_lt_of_cell? w _ hw225_2)).trans hw225_2)⟩ (fun hHeld => ?_)
          clear hK K
          refine norm_ (a' := ?_) ?_ ?_
          rotate_left
          ·show Act.put _ (some 37) _ = _
           simp only [Act.put, List.setIfInBounds_toArray, List.set_cons_zero, List.set_cons_succ, i64_w, i32_w]
           rfl
          refine pure_ (i := 7) (N := some 38) (v := ?_) (a' := ?_) #[true, true, true, true, true, true, true, true] rfl rfl (any_of HT_.out (by kernel_rfl)) (fun _ _ _ h => h) (Or.inl ⟨by rfl, ?_⟩) ?_ ?_
          rotate_left
          ·intro w'
           go_simp
           with_reducible rfl
          rotate_left
          ·simp only [Act.put, List.setIfInBounds_toArray, List.set_cons_zero, List.set_cons_succ, i64_w, i32_w]
           rfl
          refine done_ (done_of HT_.out (by kernel_rfl)) ?_
          try go_wp2
          go_roundg k1
          case measure => have := HK1.out; omega
          case rel => exact ⟨(wrap64 (x26_1 + 1)), (x222000_1), (x222001_1), (x222002_1), (by first | rfl | (simp; done) | (simp [*]; done)), H', ⟨by have := HK1.out; omega⟩, ⟨by (with_reducible repeat (first | refine blk_drewN ?_ _ | refine blk_drew ?_ | refine blk_alloc ?_ _)); exact BK220.out⟩, ⟨by (with_reducible repeat (first | refine blk_drewN ?_ _ | refine blk_drew ?_ | refine blk_alloc ?_ _)); exact BK221.out⟩, ⟨by repeat (first | (with_reducible first | exact HB.out | apply below_alloc | apply pw_below_drewN | apply below_drew1 | refine below_set ?_ GE220.out | refine below_set ?_ GE221.out | refine below_set ?_ GE224.out) | exact HB.out)⟩⟩
         ·replace c17 := Bool.eq_false_iff.mpr c17
          subst c17
          have H1 : (some (false, false, false, 1)) = some (r1, r2, r3, r4) := by rw [if_neg (show ¬ (false = true) by decide)] at H; exact H
          clear H
          have H := H1
          clear H1
          simp only [Option.some.injEq, Prod.mk.injEq] at H
          obtain ⟨rfl, rfl, rfl, rfl⟩ := H
          have p223 : 0 ≤ (x26_1 : Int) := of_decide_eq_true (by first | (with_reducible assumption) | assumption)
          have q223 : x26_1 < (l2.length : Int) := of_decide_eq_true (by first | (with_reducible assumption) | assumption)
          obtain ⟨ad223, e223, hx223_0, hx223_1, hx223_2, hx223_3, hx223_4, hx223_5, hx223_6, hx223_7⟩ := at_T33 HR2.out x26_1 p223 q223
          cases e223
          replace hx223_0 := (HB.out.cell (World.block_lt_of_cell? w _ hx223_0)).trans hx223_0
          replace hx223_1 := (HB.out.cell (World.block_lt_of_cell? w _ hx223_1)).trans hx223_1
          replace hx223_2 := (HB.out.cell (World.block_lt_of_cell? w _ hx223_2)).trans hx223_2
          replace hx223_3 := (HB.out.cell (World.block_lt_of_cell? w _ hx223_3)).trans hx223_3
          replace hx223_4 := (HB.out.cell (World.block_lt_of_cell? w _ hx223_4)).trans hx223_4
          replace hx223_5 := (HB.out.cell (World.block_lt_of_cell? w _ hx223_5)).trans hx223_5
          replace hx223_6 := (HB.out.cell (World.block_lt_of_cell? w _ hx223_6)).trans hx223_6
          replace hx223_7 := (HB.out.cell (World.block_lt_of_cell? w _ hx223_7)).trans hx223_7
          replace p223 := eq_true p223
          replace q223 := eq_true q223
          try go_wp2_with (first | ((with_reducible refine gate_dst (N := 10) rfl ?_); refine box_event ?hg (N := 10) ?hd (cs := #[.int .i64 0, .int .i64 0, .bool false, .int .i64 0, .string (⟨#[]⟩ : ByteArray), .bool false, .int .i64 0, .string (⟨#[]⟩ : ByteArray)]) (t := 33) ?hr ?_; (case hd => rfl); (case hg => rfl); (case hr => first | (go_simp; done) | (go_simp; rfl)); intro gb224 hg w25 hbox hb; have n0_ := Aside0.mk (blk_below (g := gb220) (o := .cells #[.int .i64 a1_0, .string a1_1, .int .i64 a1_2, .bool a1_3, .int .i64 a1_4, .string a1_5, .int .i64 a1_6, .string a1_7, .slice A1_8 l1_8.length c1_8] 27 (0, 0)) (by (with_reducible repeat (first | refine blk_drewN ?_ _ | refine blk_drew ?_ | refine blk_alloc ?_ _)); exact BK220.out) hb); have n1_ := Aside0.mk (blk_below (g := gb221) (o := .cells #[.bool x222000_1, .bool x222001_1, .bool x222002_1] 35 (0, 0)) (by (with_reducible repeat (first | refine blk_drewN ?_ _ | refine blk_drew ?_ | refine blk_alloc ?_ _)); exact BK221.out) hb); have n2_ := Aside0.mk (below_step (by repeat (first | (with_reducible first | exact HB.out | apply below_alloc | apply pw_below_drewN | apply below_drew1 | refine below_set ?_ GE220.out | refine below_set ?_ GE221.out) | exact HB.out)) hb); have n3_ := Aside0.mk (hbox); have n4_ := Aside0.mk ((by rw [hg]; exact (below_size (by repeat (first | (with_reducible first | exact HB.out | apply below_alloc | apply pw_below_drewN | apply below_drew1 | refine below_set ?_ GE220.out | refine below_set ?_ GE221.out) | exact HB.out))) : w.heap.size ≤ gb224)); have n5_ := Aside0.mk ((by rw [hg]; exact (below_size (by repeat (first | (with_reducible first | exact HB.out | apply below_alloc | apply pw_below_drewN | apply below_drew1 | refine below_set ?_ GE220.out | refine below_set ?_ GE221.out) | exact HB.out))) : w.heap.size ≤ gb224)); have n6_ := Aside0.mk ((by rw [hg]; exact Nat.ne_of_lt (blk_lt (g := gb220) (o := .cells #[.int .i64 a1_0, .string a1_1, .int .i64 a1_2, .bool a1_3, .int .i64 a1_4, .string a1_5, .int .i64 a1_6, .string a1_7, .slice A1_8 l1_8.length c1_8] 27 (0, 0)) (by (with_reducible repeat (first | refine blk_drewN ?_ _ | refine blk_drew ?_ | refine blk_alloc ?_ _)); exact BK220.out)) : gb220 ≠ gb224)); have n7_ := Aside0.mk ((by rw [hg]; exact Nat.ne_of_gt (blk_lt (g := gb220) (o := .cells #[.int .i64 a1_0, .string a1_1, .int .i64 a1_2, .bool a1_3, .int .i64 a1_4, .string a1_5, .int .i64 a1_6, .string a1_7, .slice A1_8 l1_8.length c1_8] 27 (0, 0)) (by (with_reducible repeat (first | refine blk_drewN ?_ _ | refine blk_drew ?_ | refine blk_alloc ?_ _)); exact BK220.out)) : gb224 ≠ gb220)); have n8_ := Aside0.mk ((by rw [hg]; exact Nat.ne_of_lt (blk_lt (g := gb221) (o := .cells #[.bool x222000_1, .bool x222001_1, .bool x222002_1] 35 (0, 0)) (by (with_reducible repeat (first | refine blk_drewN ?_ _ | refine blk_drew ?_ | refine blk_alloc ?_ _)); exact BK221.out)) : gb221 ≠ gb224)); have n9_ := Aside0.mk ((by rw [hg]; exact Nat.ne_of_gt (blk_lt (g := gb221) (o := .cells #[.bool x222000_1, .bool x222001_1, .bool x222002_1] 35 (0, 0)) (by (with_reducible repeat (first | refine blk_drewN ?_ _ | refine blk_drew ?_ | refine blk_alloc ?_ _)); exact BK221.out)) : gb224 ≠ gb221)); clear BK220; clear BK221; clear HB; have BK220 := n0_; have BK221 := n1_; have HB := n2_; have BK224 := n3_; have GW224 := n4_; have GE224 := n5_; have NB220_224 := n6_; have NB224_220 := n7_; have NB221_224 := n8_; have NB224_221 := n9_; clear n0_ n1_ n2_ n3_ n4_ n5_ n6_ n7_ n8_ n9_; clear hb hbox hg; have hnb26 := NB224_220.out; have hnc26 := NB220_224.out; have hnb27 := NB224_221.out; have hnc27 := NB221_224.out; have hcz28_0 : w25.cell? ⟨gb224, 0, none⟩ = some (.int .i64 0) := (blk_cell BK224.out 0).trans rfl; have hcz28_1 : w25.cell? ⟨gb224, 1, none⟩ = some (.int .i64 0) := (blk_cell BK224.out 1).trans rfl; have hcz28_2 : w25.cell? ⟨gb224, 2, none⟩ = some (.bool false) := (blk_cell BK224.out 2).trans rfl; have hcz28_3 : w25.cell? ⟨gb224, 3, none⟩ = some (.int .i64 0) := (blk_cell BK224.out 3).trans rfl; have hcz28_4 : w25.cell? ⟨gb224, 4, none⟩ = some (.string (⟨#[]⟩ : ByteArray)) := (blk_cell BK224.out 4).trans rfl; have hcz28_5 : w25.cell? ⟨gb224, 5, none⟩ = some (.bool false) := (blk_cell BK224.out 5).trans rfl; have hcz28_6 : w25.cell? ⟨gb224, 6, none⟩ = some (.int .i64 0) := (blk_cell BK224.out 6).trans rfl; have hcz28_7 : w25.cell? ⟨gb224, 7, none⟩ = some (.string (⟨#[]⟩ : ByteArray)) := (blk_cell BK224.out 7).trans rfl; have hfz28_0 := blk_frozen BK224.out 0; have hfz28_1 := blk_frozen BK224.out 1; have hfz28_2 := blk_frozen BK224.out 2; have hfz28_3 := blk_frozen BK224.out 3; have hfz28_4 := blk_frozen BK224.out 4; have hfz28_5 := blk_frozen BK224.out 5; have hfz28_6 := blk_frozen BK224.out 6; have hfz28_7 := blk_frozen BK224.out 7))
          have n0_ : Aside0 (((((((((w25.setCell ⟨gb224, 0, none⟩ (.int .i64 ((rd_T33 l2 x26_1).f0))).setCell ⟨gb224, 1, none⟩ (.int .i64 ((rd_T33 l2 x26_1).f1))).setCell ⟨gb224, 2, none⟩ (.bool ((rd_T33 l2 x26_1).f2.f0))).setCell ⟨gb224, 3, none⟩ (.int .i64 ((rd_T33 l2 x26_1).f2.f1))).setCell ⟨gb224, 4, none⟩ (.string ((rd_T33 l2 x26_1).f2.f2))).setCell ⟨gb224, 5, none⟩ (.bool ((rd_T33 l2 x26_1).f3.f0))).setCell ⟨gb224, 6, none⟩ (.int .i64 ((rd_T33 l2 x26_1).f3.f1))).setCell ⟨gb224, 7, none⟩ (.string ((rd_T33 l2 x26_1).f3.f2))).heap[gb220]? = some (.cells #[.int .i64 a1_0, .string a1_1, .int .i64 a1_2, .bool a1_3, .int .i64 a1_4, .string a1_5, .int .i64 a1_6, .string a1_7, .slice A1_8 l1_8.length c1_8] 27 (0, 0))) := ⟨by (iterate 8 ((with_reducible repeat (first | refine blk_drewN ?_ _ | refine blk_drew ?_ | refine blk_alloc ?_ _)); refine blk_far ?_ NB220_224.out _)); (with_reducible repeat (first | refine blk_drewN ?_ _ | refine blk_drew ?_ | refine blk_alloc ?_ _)); exact BK220.out⟩
          have n1_ : Aside0 (((((((((w25.setCell ⟨gb224, 0, none⟩ (.int .i64 ((rd_T33 l2 x26_1).f0))).setCell ⟨gb224, 1, none⟩ (.int .i64 ((rd_T33 l2 x26_1).f1))).setCell ⟨gb224, 2, none⟩ (.bool ((rd_T33 l2 x26_1).f2.f0))).setCell ⟨gb224, 3, none⟩ (.int .i64 ((rd_T33 l2 x26_1).f2.f1))).setCell ⟨gb224, 4, none⟩ (.string ((rd_T33 l2 x26_1).f2.f2))).setCell ⟨gb224, 5, none⟩ (.bool ((rd_T33 l2 x26_1).f3.f0))).setCell ⟨gb224, 6, none⟩ (.int .i64 ((rd_T33 l2 x26_1).f3.f1))).setCell ⟨gb224, 7, none⟩ (.string ((rd_T33 l2 x26_1).f3.f2))).heap[gb221]? = some (.cells #[.bool x222000_1, .bool x222001_1, .bool x222002_1] 35 (0, 0))) := ⟨by (iterate 8 ((with_reducible repeat (first | refine blk_drewN ?_ _ | refine blk_drew ?_ | refine blk_alloc ?_ _)); refine blk_far ?_ NB221_224.out _)); (with_reducible repeat (first | refine blk_drewN ?_ _ | refine blk_drew ?_ | refine blk_alloc ?_ _)); exact BK221.out⟩
          have n2_ : Aside0 (((((((((w25.setCell ⟨gb224, 0, none⟩ (.int .i64 ((rd_T33 l2 x26_1).f0))).setCell ⟨gb224, 1, none⟩ (.int .i64 ((rd_T33 l2 x26_1).f1))).setCell ⟨gb224, 2, none⟩ (.bool ((rd_T33 l2 x26_1).f2.f0))).setCell ⟨gb224, 3, none⟩ (.int .i64 ((rd_T33 l2 x26_1).f2.f1))).setCell ⟨gb224, 4, none⟩ (.string ((rd_T33 l2 x26_1).f2.f2))).setCell ⟨gb224, 5, none⟩ (.bool ((rd_T33 l2 x26_1).f3.f0))).setCell ⟨gb224, 6, none⟩ (.int .i64 ((rd_T33 l2 x26_1).f3.f1))).setCell ⟨gb224, 7, none⟩ (.string ((rd_T33 l2 x26_1).f3.f2))).heap[gb224]? = some (.cells #[.int .i64 ((rd_T33 l2 x26_1).f0), .int .i64 ((rd_T33 l2 x26_1).f1), .bool ((rd_T33 l2 x26_1).f2.f0), .int .i64 ((rd_T33 l2 x26_1).f2.f1), .string ((rd_T33 l2 x26_1).f2.f2), .bool ((rd_T33 l2 x26_1).f3.f0), .int .i64 ((rd_T33 l2 x26_1).f3.f1), .string ((rd_T33 l2 x26_1).f3.f2)] 33 (0, 0))) := ⟨by (with_reducible repeat (first | refine blk_drewN ?_ _ | refine blk_drew ?_ | refine blk_alloc ?_ _)); apply blk_all8_; (with_reducible repeat (first | refine blk_drewN ?_ _ | refine blk_drew ?_ | refine blk_alloc ?_ _)); exact BK224.out⟩
          have n3_ : Aside0 (Below w.heap.size w ((((((((w25.setCell ⟨gb224, 0, none⟩ (.int .i64 ((rd_T33 l2 x26_1).f0))).setCell ⟨gb224, 1, none⟩ (.int .i64 ((rd_T33 l2 x26_1).f1))).setCell ⟨gb224, 2, none⟩ (.bool ((rd_T33 l2 x26_1).f2.f0))).setCell ⟨gb224, 3, none⟩ (.int .i64 ((rd_T33 l2 x26_1).f2.f1))).setCell ⟨gb224, 4, none⟩ (.string ((rd_T33 l2 x26_1).f2.f2))).setCell ⟨gb224, 5, none⟩ (.bool ((rd_T33 l2 x26_1).f3.f0))).setCell ⟨gb224, 6, none⟩ (.int .i64 ((rd_T33 l2 x26_1).f3.f1))).setCell ⟨gb224, 7, none⟩ (.string ((rd_T33 l2 x26_1).f3.f2)))) := ⟨by repeat (first | (with_reducible first | exact HB.out | apply below_alloc | apply pw_below_drewN | apply below_drew1 | refine below_set ?_ GE220.out | refine below_set ?_ GE221.out | refine below_set ?_ GE224.out) | exact HB.out)⟩
          (try clear BK220)
          (try clear BK221)
          (try clear BK224)
          (try clear HB)
          generalize ((((((((w25.setCell ⟨gb224, 0, none⟩ (.int .i64 ((rd_T33 l2 x26_1).f0))).setCell ⟨gb224, 1, none⟩ (.int .i64 ((rd_T33 l2 x26_1).f1))).setCell ⟨gb224, 2, none⟩ (.bool ((rd_T33 l2 x26_1).f2.f0))).setCell ⟨gb224, 3, none⟩ (.int .i64 ((rd_T33 l2 x26_1).f2.f1))).setCell ⟨gb224, 4, none⟩ (.string ((rd_T33 l2 x26_1).f2.f2))).setCell ⟨gb224, 5, none⟩ (.bool ((rd_T33 l2 x26_1).f3.f0))).setCell ⟨gb224, 6, none⟩ (.int .i64 ((rd_T33 l2 x26_1).f3.f1))).setCell ⟨gb224, 7, none⟩ (.string ((rd_T33 l2 x26_1).f3.f2))) = w29 at n0_ n1_ n2_ n3_ ⊢
          have BK220 := n0_
          have BK221 := n1_
          have BK224 := n2_
          have HB := n3_
          clear n0_ n1_ n2_ n3_
          have n0_ := Aside0.mk (blk_drew BK220.out)
          have n1_ := Aside0.mk (blk_drew BK221.out)
          have n2_ := Aside0.mk (blk_drew BK224.out)
          have n3_ := Aside0.mk (below_drew1 HB.out)
          clear BK220
          clear BK221
          clear BK224
          clear HB
          have BK220 := n0_
          have BK221 := n1_
          have BK224 := n2_
          have HB := n3_
          clear n0_ n1_ n2_ n3_
          have p225 : 0 ≤ (x26_1 : Int) := of_decide_eq_true (by first | (with_reducible assumption) | assumption)
          have q225 : x26_1 < (l0.length : Int) := of_decide_eq_true (by first | (with_reducible assumption) | assumption)
          obtain ⟨ad225, e225, hx225_0, hx225_1, hx225_2⟩ := at_T64 HR0.out x26_1 p225 q225
          have hw225_2 := hx225_2
          have hw225_1 := hx225_1
          have hw225_0 := hx225_0
          cases e225
          replace hx225_0 := (HB.out.cell (World.block_lt_of_cell? w _ hx225_0)).trans hx225_0
          replace hx225_1 := (HB.out.cell (World.block_lt_of_cell? w _ hx225_1)).trans hx225_1
          replace hx225_2 := (HB.out.cell (World.block_lt_of_cell? w _ hx225_2)).trans hx225_2
          replace p225 := eq_true p225
          replace q225 := eq_true q225
          refine start_ (n := 8) (S := fun w' => w'.cell? ⟨gb224, 0, none⟩ = some (.int .i64 ((rd_T33 l2 x26_1).f0)) ∧ w'.cell? ⟨gb224, 1, none⟩ = some (.int .i64 ((rd_T33 l2 x26_1).f1)) ∧ w'.cell? ⟨gb224, 2, none⟩ = some (.bool ((rd_T33 l2 x26_1).f2.f0)) ∧ w'.cell? ⟨gb224, 3, none⟩ = some (.int .i64 ((rd_T33 l2 x26_1).f2.f1)) ∧ w'.cell? ⟨gb224, 4, none⟩ = some (.string ((rd_T33 l2 x26_1).f2.f2)) ∧ w'.cell? ⟨gb224, 5, none⟩ = some (.bool ((rd_T33 l2 x26_1).f3.f0)) ∧ w'.cell? ⟨gb224, 6, none⟩ = some (.int .i64 ((rd_T33 l2 x26_1).f3.f1)) ∧ w'.cell? ⟨gb224, 7, none⟩ = some (.string ((rd_T33 l2 x26_1).f3.f2)) ∧ w'.cell? (ad225.add ((x26_1).toNat * 3)) = some (.string ((rd_T64 l0 x26_1).f0)) ∧ w'.cell? ⟨(ad225.add ((x26_1).toNat * 3)).block, (ad225.add ((x26_1).toNat * 3)).off + 1, none⟩ = some (.int .i64 ((rd_T64 l0 x26_1).f1)) ∧ w'.cell? ⟨(ad225.add ((x26_1).toNat * 3)).block, (ad225.add ((x26_1).toNat * 3)).off + 2, none⟩ = some (.bool ((rd_T64 l0 x26_1).f2))) (ds := []) #[false, false, false, false, false, false, false, false] (by kernel_rfl) rfl rfl ⟨(blk_cell BK224.out 0).trans rfl, (blk_cell BK224.out 1).trans rfl, (blk_cell BK224.out 2).trans rfl, (blk_cell BK224.out 3).trans rfl, (blk_cell BK224.out 4).trans rfl, (blk_cell BK224.out 5).trans rfl, (blk_cell BK224.out 6).trans rfl, (blk_cell BK224.out 7).trans rfl, ((HB.out.cell (World.block_lt_of_cell? w _ hw225_0)).trans hw225_0), ((HB.out.cell (World.block_lt_of_cell? w _ hw225_1)).trans hw225_1), ((HB.out.cell (World.block_lt_of_cell? w _ hw225_2)).trans hw225_2)⟩ (fun hHeld => ?_); refine with_tabW prune_Ask.tab9 prune_Ask.bits9 (fun HT_ HW_ => ?_)
          generalize w29.drew = w30 at BK220 BK221 BK224 HB hx225_0 hx225_1 hx225_2 hHeld ⊢
          refine pure_ (i := 0) (N := some 31) (v := ?_) (a' := ?_) #[true, false, false, false, false, false, false, false] rfl rfl (any_of HT_.out (by kernel_rfl)) (fun _ _ _ h => h) (Or.inl ⟨by rfl, ?_⟩) ?_ ?_
          rotate_left
          ·intro w'
           go_simp
           with_reducible rfl
          rotate_left
          ·simp only [Act.put, List.setIfInBounds_toArray, List.set_cons_zero, List.set_cons_succ, i64_w, i32_w]
           rfl
          refine pure_ (i := 1) (N := some 32) (v := ?_) (a' := ?_) #[true, true, false, false, false, false, false, false] rfl rfl (any_of HT_.out (by kernel_rfl)) (fun _ _ _ h => h) (Or.inl ⟨by rfl, ?_⟩) ?_ ?_
          rotate_left
          ·intro w'
           go_simp
           with_reducible rfl
          rotate_left
          ·simp only [Act.put, List.setIfInBounds_toArray, List.set_cons_zero, List.set_cons_succ, i64_w, i32_w]
           rfl
          refine pure_ (i := 2) (N := some 33) (v := ?_) (a' := ?_) #[true, true, true, false, false, false, false, false] rfl rfl (any_of HT_.out (by kernel_rfl)) (fun _ _ _ h => h) (Or.inl ⟨by rfl, ?_⟩) ?_ ?_
          rotate_left
          ·intro w'
           go_simp
           with_reducible rfl
          rotate_left
          ·simp only [Act.put, List.setIfInBounds_toArray, List.set_cons_zero, List.set_cons_succ, i64_w, i32_w]
           rfl
          refine pure_ (i := 3) (N := some 34) (v := ?_) (a' := ?_) #[true, true, true, true, false, false, false, false] rfl rfl (any_of HT_.out (by kernel_rfl)) (fun _ _ _ h => h) (Or.inl ⟨by rfl, ?_⟩) ?_ ?_
          rotate_left
          ·intro w'
           go_simp
           with_reducible rfl
          rotate_left
          ·simp only [Act.put, List.setIfInBounds_toArray, List.set_cons_zero, List.set_cons_succ, i64_w, i32_w]
           rfl
          refine take_ (i := 4) (N := some 35) (v := ?_) (a' := ?_) #[true, true, true, true, true, false, false, false] rfl rfl (take_ofW HT_.out HW_.out (by kernel_rfl)) (fun _ _ _ h => h) (Or.inl ⟨by rfl, ?_⟩) hHeld ?_ ?_
          rotate_left
          ·rintro w' ⟨s0, s1, s2, s3, s4, s5, s6, s7, s8, s9, s10⟩
           go_simp
           with_reducible rfl
          rotate_left
          ·simp only [Act.put, List.setIfInBounds_toArray, List.set_cons_zero, List.set_cons_succ, i64_w, i32_w]
           rfl
          refine take_ (i := 5) (N := some 36) (v := ?_) (a' := ?_) #[true, true, true, true, true, true, false, false] rfl rfl (take_ofW HT_.out HW_.out (by kernel_rfl)) (fun _ _ _ h => h) (Or.inl ⟨by rfl, ?_⟩) hHeld ?_ ?_
          rotate_left
          ·rintro w' ⟨s0, s1, s2, s3, s4, s5, s6, s7, s8, s9, s10⟩
           go_simp
           with_reducible rfl
          rotate_left
          ·simp only [Act.put, List.setIfInBounds_toArray, List.set_cons_zero, List.set_cons_succ, i64_w, i32_w]
           rfl
          refine one_ (i := 6) (N := some 37) #[true, true, true, true, true, true, true, false] rfl rfl (one_of HT_.out (by kernel_rfl)) (by decide) (fun K hK => ?_)
          refine goes_ Try.func28 (by kernel_rfl) rfl #[.int .i64 ((rd_T64 l0 x26_1).f1), .agg #[.int .i64 ((rd_T33 l2 x26_1).f0), .int .i64 ((rd_T33 l2 x26_1).f1), .bool ((rd_T33 l2 x26_1).f2.f0), .int .i64 ((rd_T33 l2 x26_1).f2.f1), .string ((rd_T33 l2 x26_1).f2.f2), .bool ((rd_T33 l2 x26_1).f3.f0), .int .i64 ((rd_T33 l2 x26_1).f3.f1), .string ((rd_T33 l2 x26_1).f3.f2)]] (by rfl) rfl rfl (by (try simp only [List.map_toArray, List.map_cons, List.map_nil]); first | done | rfl | (simp only [List.length_drop, List.length_take]; rfl)) ?_
          with_reducible refine (zone_May.calls k1 ((rd_T64 l0 x26_1).f1) ((rd_T33 l2 x26_1).f0) ((rd_T33 l2 x26_1).f1) ((rd_T33 l2 x26_1).f2.f0) ((rd_T33 l2 x26_1).f2.f1) ((rd_T33 l2 x26_1).f2.f2) ((rd_T33 l2 x26_1).f3.f0) ((rd_T33 l2 x26_1).f3.f1) ((rd_T33 l2 x26_1).f3.f2) false _ A16.out).mono ?_
          rintro e w31 ⟨rfl, hb⟩
          refine ⟨_, rfl, ?_⟩
          have n0_ := Aside0.mk (blk_below (g := gb220) (o := .cells #[.int .i64 a1_0, .string a1_1, .int .i64 a1_2, .bool a1_3, .int .i64 a1_4, .string a1_5, .int .i64 a1_6, .string a1_7, .slice A1_8 l1_8.length c1_8] 27 (0, 0)) (by (with_reducible repeat (first | refine blk_drewN ?_ _ | refine blk_drew ?_ | refine blk_alloc ?_ _)); exact BK220.out) hb)
          have n1_ := Aside0.mk (blk_below (g := gb221) (o := .cells #[.bool x222000_1, .bool x222001_1, .bool x222002_1] 35 (0, 0)) (by (with_reducible repeat (first | refine blk_drewN ?_ _ | refine blk_drew ?_ | refine blk_alloc ?_ _)); exact BK221.out) hb)
          have n2_ := Aside0.mk (blk_below (g := gb224) (o := .cells #[.int .i64 ((rd_T33 l2 x26_1).f0), .int .i64 ((rd_T33 l2 x26_1).f1), .bool ((rd_T33 l2 x26_1).f2.f0), .int .i64 ((rd_T33 l2 x26_1).f2.f1), .string ((rd_T33 l2 x26_1).f2.f2), .bool ((rd_T33 l2 x26_1).f3.f0), .int .i64 ((rd_T33 l2 x26_1).f3.f1), .string ((rd_T33 l2 x26_1).f3.f2)] 33 (0, 0)) (by (with_reducible repeat (first | refine blk_drewN ?_ _ | refine blk_drew ?_ | refine blk_alloc ?_ _)); exact BK224.out) hb)
          have n3_ := Aside0.mk (below_step (by repeat (first | (with_reducible first | exact HB.out | apply below_alloc | apply pw_below_drewN | apply below_drew1 | refine below_set ?_ GE220.out | refine below_set ?_ GE221.out | refine below_set ?_ GE224.out) | exact HB.out)) hb)
          clear BK220
          clear BK221
          clear BK224
          clear HB
          have BK220 := n0_
          have BK221 := n1_
          have BK224 := n2_
          have HB := n3_
          clear n0_ n1_ n2_ n3_
          (try clear hb)
          (try clear hb2)
          (try clear hk)
          (try clear hi)
          refine hK.out _ _ ⟨(blk_cell BK224.out 0).trans rfl, (blk_cell BK224.out 1).trans rfl, (blk_cell BK224.out 2).trans rfl, (blk_cell BK224.out 3).trans rfl, (blk_cell BK224.out 4).trans rfl, (blk_cell BK224.out 5).trans rfl, (blk_cell BK224.out 6).trans rfl, (blk_cell BK224.out 7).trans rfl, ((HB.out.cell (World.block_lt_of_cell? w _ hw225_0)).trans hw225_0), ((HB.out.cell (World.block_lt_of_cell? w _ hw225_1)).trans hw225_1), ((HB.out.cell (World.block_lt_of_cell? w _ hw225_2)).trans hw225_2)⟩ (fun hHeld => ?_)
          clear hK K
          refine norm_ (a' := ?_) ?_ ?_
          rotate_left
          ·show Act.put _ (some 37) _ = _
           simp only [Act.put, List.setIfInBounds_toArray, List.set_cons_zero, List.set_cons_succ, i64_w, i32_w]
           rfl
          refine pure_ (i := 7) (N := some 38) (v := ?_) (a' := ?_) #[true, true, true, true, true, true, true, true] rfl rfl (any_of HT_.out (by kernel_rfl)) (fun _ _ _ h => h) (Or.inl ⟨by rfl, ?_⟩) ?_ ?_
          rotate_left
          ·intro w'
           go_simp
           with_reducible rfl
          rotate_left
          ·simp only [Act.put, List.setIfInBounds_toArray, List.set_cons_zero, List.set_cons_succ, i64_w, i32_w]
           rfl
          refine done_ (done_of HT_.out (by kernel_rfl)) ?_
          have hnb32 := NB221_220.out
          have hnc32 := NB220_221.out
          obtain ⟨hcz33_0, hcz33_1, hcz33_2⟩ := cz3_ BK221.out
          obtain ⟨hfz33_0, hfz33_1, hfz33_2⟩ := fz3_ BK221.out
          try go_wp2
          refine bodyPost_ret (results_ct rfl _ _ gb221 35 #[.bool false, .bool false, .bool false] (0, 0) _ rfl (by (with_reducible repeat (first | refine blk_drewN ?_ _ | refine blk_drew ?_ | refine blk_alloc ?_ _)); apply blk_all3_; (with_reducible repeat (first | refine blk_drewN ?_ _ | refine blk_drew ?_ | refine blk_alloc ?_ _)); exact BK221.out) Try.underlying35 rfl (by kernel_rfl)) rfl ?_
          exact ⟨by first | rfl | (simp [errW_none, errW_some] <;> rfl) | (simp [*, errW_none, errW_some] <;> rfl), by repeat (first | (with_reducible first | exact HB.out | apply below_alloc | apply pw_below_drewN | apply below_drew1 | refine below_set ?_ GE220.out | refine below_set ?_ GE221.out | refine below_set ?_ GE224.out) | exact HB.out)⟩
        ·rw [if_neg c15] at H
         exact absurd H (by simp)
       ·rw [if_neg c14] at H
        exact absurd H (by simp)
      ·rw [if_neg c13] at H
       exact absurd H (by simp)
     ·rw [if_neg c12] at H
      have c12b0 : decide (x26_1 < (l2.length : Int)) = false := decide_eq_false c12
      clear c12
      replace H := Option.bind_eq_some_iff.mp H
      obtain ⟨⟨t227, t228, t229⟩, A340, H⟩ := H
      replace H : (some (t227, t228, t229, 0)) = some (r1, r2, r3, r4) := H
      have A34 := Aside0.mk A340
      clear A340
      simp only [Option.some.injEq, Prod.mk.injEq] at H
      obtain ⟨rfl, rfl, rfl, rfl⟩ := H
      have hnb35 := NB220_221.out
      have hnc35 := NB221_220.out
      obtain ⟨hcz36_0, hcz36_1, hcz36_2, hcz36_3, hcz36_4, hcz36_5, hcz36_6, hcz36_7, hcz36_8⟩ := cz9_ BK220.out
      obtain ⟨hfz36_0, hfz36_1, hfz36_2, hfz36_3, hfz36_4, hfz36_5, hfz36_6, hfz36_7, hfz36_8⟩ := fz9_ BK220.out
      go_wp2_with (first | ((with_reducible refine gate_callee (f := 29) rfl ?_); refine goesL_ (some 45) rfl rfl Try.func29 (by kernel_rfl) rfl #[.agg #[.slice A0 l0.length c0, .slice A2 l2.length c2], .agg #[.int .i64 a1_0, .string a1_1, .int .i64 a1_2, .bool a1_3, .int .i64 a1_4, .string a1_5, .int .i64 a1_6, .string a1_7, .slice A1_8 l1_8.length c1_8]] rfl (by (try simp only [List.map_toArray, List.map_cons, List.map_nil]); first | done | rfl | (simp only [List.length_drop, List.length_take]; rfl)) ?_; (with_reducible refine (prune_asker_ask.calls k1 _ _ l0 _ _ l2 a1_0 a1_1 a1_2 a1_3 a1_4 a1_5 a1_6 a1_7 _ _ l1_8 t227 t228 t229 _ ?side1 ?side2 ?side3 ?side4 ?side5 ?side6 A34.out).mono ?_); (case side1 => repeat (first | exact (Kd.C_below HR0.out HB.out) | (with_reducible refine Kd.C_alloc ?_ _) | (with_reducible refine Kd.C_drewN ?_ _) | (with_reducible refine Kd.C_drew ?_))); (case side2 => exact HC0.out); (case side3 => repeat (first | exact (Kd.C_below HR2.out HB.out) | (with_reducible refine Kd.C_alloc ?_ _) | (with_reducible refine Kd.C_drewN ?_ _) | (with_reducible refine Kd.C_drew ?_))); (case side4 => exact HC2.out); (case side5 => repeat (first | exact (Kd.C_below HR1_8.out HB.out) | (with_reducible refine Kd.C_alloc ?_ _) | (with_reducible refine Kd.C_drewN ?_ _) | (with_reducible refine Kd.C_drew ?_))); (case side6 => exact HC1_8.out); rintro e w37 ⟨rfl, hb⟩; refine ⟨_, rfl, ?_⟩; have n0_ := Aside0.mk (blk_below (g := gb220) (o := .cells #[.int .i64 a1_0, .string a1_1, .int .i64 a1_2, .bool a1_3, .int .i64 a1_4, .string a1_5, .int .i64 a1_6, .string a1_7, .slice A1_8 l1_8.length c1_8] 27 (0, 0)) (by (with_reducible repeat (first | refine blk_drewN ?_ _ | refine blk_drew ?_ | refine blk_alloc ?_ _)); exact BK220.out) hb); have n1_ := Aside0.mk (blk_below (g := gb221) (o := .cells #[.bool x222000_1, .bool x222001_1, .bool x222002_1] 35 (0, 0)) (by (with_reducible repeat (first | refine blk_drewN ?_ _ | refine blk_drew ?_ | refine blk_alloc ?_ _)); exact BK221.out) hb); have n2_ := Aside0.mk (below_step (by repeat (first | (with_reducible first | exact HB.out | apply below_alloc | apply pw_below_drewN | apply below_drew1 | refine below_set ?_ GE220.out | refine below_set ?_ GE221.out) | exact HB.out)) hb); clear BK220; clear BK221; clear HB; have BK220 := n0_; have BK221 := n1_; have HB := n2_; clear n0_ n1_ n2_; (try clear hb); (try clear hb2); (try clear hk); (try clear hi); have hcz38_0 : w37.cell? ⟨gb221, 0, none⟩ = some (.bool x222000_1) := (blk_cell BK221.out 0).trans rfl; have hcz38_1 : w37.cell? ⟨gb221, 1, none⟩ = some (.bool x222001_1) := (blk_cell BK221.out 1).trans rfl; have hcz38_2 : w37.cell? ⟨gb221, 2, none⟩ = some (.bool x222002_1) := (blk_cell BK221.out 2).trans rfl; have hfz38_0 := blk_frozen BK221.out 0; have hfz38_1 := blk_frozen BK221.out 1; have hfz38_2 := blk_frozen BK221.out 2))
      refine bodyPost_ret (results_ct rfl _ _ gb221 35 #[.bool t227, .bool t228, .bool t229] (0, 0) _ rfl (by (with_reducible repeat (first | refine blk_drewN ?_ _ | refine blk_drew ?_ | refine blk_alloc ?_ _)); apply blk_all3_; (with_reducible repeat (first | refine blk_drewN ?_ _ | refine blk_drew ?_ | refine blk_alloc ?_ _)); exact BK221.out) Try.underlying35 rfl (by kernel_rfl)) rfl ?_
      exact ⟨by first | rfl | (simp [errW_none, errW_some] <;> rfl) | (simp [*, errW_none, errW_some] <;> rfl), by repeat (first | (with_reducible first | exact HB.out | apply below_alloc | apply pw_below_drewN | apply below_drew1 | refine below_set ?_ GE220.out | refine below_set ?_ GE221.out) | exact HB.out)⟩
  ·rw [if_neg c6] at H
   have c6b0 : ((l2.length : Int) == (l0.length : Int)) = false := beq_eq_false_iff_ne.mpr c6
   have c6b1 : ((l2.length : Int) != (l0.length : Int)) = true := bne_iff_ne.mpr c6
   have c6b2 : (l2.length == l0.length) = false := by first | simpa using c6 | (simp at c6 ⊢; omega)
   simp only [Option.some.injEq, Prod.mk.injEq] at H
   obtain ⟨rfl, rfl, rfl, rfl⟩ := H
   go_enter Try.func12, Try.ntmps12
   go_wp2_with (first | ((with_reducible refine gate_dst (N := 4) rfl ?_); refine box_event ?hg (N := 4) ?hd (cs := #[.int .i64 a1_0, .string a1_1, .int .i64 a1_2, .bool a1_3, .int .i64 a1_4, .string a1_5, .int .i64 a1_6, .string a1_7, .slice A1_8 l1_8.length c1_8]) (t := 27) ?hr ?_; (case hd => rfl); (case hg => rfl); (case hr => first | (go_simp; done) | (go_simp; rfl)); intro gb220 hg w39 hbox hb; have n0_ := Aside0.mk (below_step (by repeat (first | (with_reducible first | exact HB.out | apply below_alloc | apply pw_below_drewN | apply below_drew1) | exact HB.out)) hb); have n1_ := Aside0.mk (hbox); have n2_ := Aside0.mk ((by rw [hg]; exact (below_size (by repeat (first | (with_reducible first | exact HB.out | apply below_alloc | apply pw_below_drewN | apply below_drew1) | exact HB.out))) : w.heap.size ≤ gb220)); have n3_ := Aside0.mk ((by rw [hg]; exact (below_size (by repeat (first | (with_reducible first | exact HB.out | apply below_alloc | apply pw_below_drewN | apply below_drew1) | exact HB.out))) : w.heap.size ≤ gb220)); clear HB; have HB := n0_; have BK220 := n1_; have GW220 := n2_; have GE220 := n3_; clear n0_ n1_ n2_ n3_; clear hb hbox hg) | ((with_reducible refine gate_dst (N := 6) rfl ?_); refine box_event ?hg (N := 6) ?hd (cs := #[.bool false, .bool false, .bool false]) (t := 35) ?hr ?_; (case hd => rfl); (case hg => rfl); (case hr => first | (go_simp; done) | (go_simp; rfl)); intro gb221 hg w40 hbox hb; have n0_ := Aside0.mk (blk_below (g := gb220) (o := .cells #[.int .i64 a1_0, .string a1_1, .int .i64 a1_2, .bool a1_3, .int .i64 a1_4, .string a1_5, .int .i64 a1_6, .string a1_7, .slice A1_8 l1_8.length c1_8] 27 (0, 0)) (by (with_reducible repeat (first | refine blk_drewN ?_ _ | refine blk_drew ?_ | refine blk_alloc ?_ _)); exact BK220.out) hb); have n1_ := Aside0.mk (below_step (by repeat (first | (with_reducible first | exact HB.out | apply below_alloc | apply pw_below_drewN | apply below_drew1 | refine below_set ?_ GE220.out) | exact HB.out)) hb); have n2_ := Aside0.mk (hbox); have n3_ := Aside0.mk ((by rw [hg]; exact (below_size (by repeat (first | (with_reducible first | exact HB.out | apply below_alloc | apply pw_below_drewN | apply below_drew1 | refine below_set ?_ GE220.out) | exact HB.out))) : w.heap.size ≤ gb221)); have n4_ := Aside0.mk ((by rw [hg]; exact (below_size (by repeat (first | (with_reducible first | exact HB.out | apply below_alloc | apply pw_below_drewN | apply below_drew1 | refine below_set ?_ GE220.out) | exact HB.out))) : w.heap.size ≤ gb221)); have n5_ := Aside0.mk ((by rw [hg]; exact Nat.ne_of_lt (blk_lt (g := gb220) (o := .cells #[.int .i64 a1_0, .string a1_1, .int .i64 a1_2, .bool a1_3, .int .i64 a1_4, .string a1_5, .int .i64 a1_6, .string a1_7, .slice A1_8 l1_8.length c1_8] 27 (0, 0)) (by (with_reducible repeat (first | refine blk_drewN ?_ _ | refine blk_drew ?_ | refine blk_alloc ?_ _)); exact BK220.out)) : gb220 ≠ gb221)); have n6_ := Aside0.mk ((by rw [hg]; exact Nat.ne_of_gt (blk_lt (g := gb220) (o := .cells #[.int .i64 a1_0, .string a1_1, .int .i64 a1_2, .bool a1_3, .int .i64 a1_4, .string a1_5, .int .i64 a1_6, .string a1_7, .slice A1_8 l1_8.length c1_8] 27 (0, 0)) (by (with_reducible repeat (first | refine blk_drewN ?_ _ | refine blk_drew ?_ | refine blk_alloc ?_ _)); exact BK220.out)) : gb221 ≠ gb220)); clear BK220; clear HB; have BK220 := n0_; have HB := n1_; have BK221 := n2_; have GW221 := n3_; have GE221 := n4_; have NB220_221 := n5_; have NB221_220 := n6_; clear n0_ n1_ n2_ n3_ n4_ n5_ n6_; clear hb hbox hg; have hnb41 := NB220_221.out; have hnc41 := NB221_220.out; have hcz42_0 : w40.cell? ⟨gb220, 0, none⟩ = some (.int .i64 a1_0) := (blk_cell BK220.out 0).trans rfl; have hcz42_1 : w40.cell? ⟨gb220, 1, none⟩ = some (.string a1_1) := (blk_cell BK220.out 1).trans rfl; have hcz42_2 : w40.cell? ⟨gb220, 2, none⟩ = some (.int .i64 a1_2) := (blk_cell BK220.out 2).trans rfl; have hcz42_3 : w40.cell? ⟨gb220, 3, none⟩ = some (.bool a1_3) := (blk_cell BK220.out 3).trans rfl; have hcz42_4 : w40.cell? ⟨gb220, 4, none⟩ = some (.int .i64 a1_4) := (blk_cell BK220.out 4).trans rfl; have hcz42_5 : w40.cell? ⟨gb220, 5, none⟩ = some (.string a1_5) := (blk_cell BK220.out 5).trans rfl; have hcz42_6 : w40.cell? ⟨gb220, 6, none⟩ = some (.int .i64 a1_6) := (blk_cell BK220.out 6).trans rfl; have hcz42_7 : w40.cell? ⟨gb220, 7, none⟩ = some (.string a1_7) := (blk_cell BK220.out 7).trans rfl; have hcz42_8 : w40.cell? ⟨gb220, 8, none⟩ = some (.slice A1_8 l1_8.length c1_8) := (blk_cell BK220.out 8).trans rfl; have hfz42_0 := blk_frozen BK220.out 0; have hfz42_1 := blk_frozen BK220.out 1; have hfz42_2 := blk_frozen BK220.out 2; have hfz42_3 := blk_frozen BK220.out 3; have hfz42_4 := blk_frozen BK220.out 4; have hfz42_5 := blk_frozen BK220.out 5; have hfz42_6 := blk_frozen BK220.out 6; have hfz42_7 := blk_frozen BK220.out 7; have hfz42_8 := blk_frozen BK220.out 8) | ((with_reducible refine gate_callee (f := 27) rfl ?_); refine goesL_ (some 13) rfl rfl Try.func27 (by kernel_rfl) rfl #[.slice A0 l0.length c0, .agg #[.int .i64 a1_0, .string a1_1, .int .i64 a1_2, .bool a1_3, .int .i64 a1_4, .string a1_5, .int .i64 a1_6, .string a1_7, .slice A1_8 l1_8.length c1_8]] rfl (by (try simp only [List.map_toArray, List.map_cons, List.map_nil]); first | done | rfl | (simp only [List.length_drop, List.length_take]; rfl)) ?_; (with_reducible refine (pred_Fits.calls _ _ l0 a1_0 a1_1 a1_2 a1_3 a1_4 a1_5 a1_6 a1_7 _ _ l1_8 t222 _ ?side1 ?side2 ?side3 ?side4 A4.out).mono ?_); (case side1 => repeat (first | exact (Kd.C_below HR0.out HB.out) | (with_reducible refine Kd.C_alloc ?_ _) | (with_reducible refine Kd.C_drewN ?_ _) | (with_reducible refine Kd.C_drew ?_))); (case side2 => exact HC0.out); (case side3 => repeat (first | exact (Kd.C_below HR1_8.out HB.out) | (with_reducible refine Kd.C_alloc ?_ _) | (with_reducible refine Kd.C_drewN ?_ _) | (with_reducible refine Kd.C_drew ?_))); (case side4 => exact HC1_8.out); rintro e w43 ⟨rfl, hb⟩; refine ⟨_, rfl, ?_⟩; have n0_ := Aside0.mk (blk_below (g := gb220) (o := .cells #[.int .i64 a1_0, .string a1_1, .int .i64 a1_2, .bool a1_3, .int .i64 a1_4, .string a1_5, .int .i64 a1_6, .string a1_7, .slice A1_8 l1_8.length c1_8] 27 (0, 0)) (by (with_reducible repeat (first | refine blk_drewN ?_ _ | refine blk_drew ?_ | refine blk_alloc ?_ _)); exact BK220.out) hb); have n1_ := Aside0.mk (blk_below (g := gb221) (o := .cells #[.bool false, .bool false, .bool false] 35 (0, 0)) (by (with_reducible repeat (first | refine blk_drewN ?_ _ | refine blk_drew ?_ | refine blk_alloc ?_ _)); exact BK221.out) hb); have n2_ := Aside0.mk (below_step (by repeat (first | (with_reducible first | exact HB.out | apply below_alloc | apply pw_below_drewN | apply below_drew1 | refine below_set ?_ GE220.out | refine below_set ?_ GE221.out) | exact HB.out)) hb); clear BK220; clear BK221; clear HB; have BK220 := n0_; have BK221 := n1_; have HB := n2_; clear n0_ n1_ n2_; (try clear hb); (try clear hb2); (try clear hk); (try clear hi); have hcz44_0 : w43.cell? ⟨gb221, 0, none⟩ = some (.bool false) := (blk_cell BK221.out 0).trans rfl; have hcz44_1 : w43.cell? ⟨gb221, 1, none⟩ = some (.bool false) := (blk_cell BK221.out 1).trans rfl; have hcz44_2 : w43.cell? ⟨gb221, 2, none⟩ = some (.bool false) := (blk_cell BK221.out 2).trans rfl; have hfz44_0 := blk_frozen BK221.out 0; have hfz44_1 := blk_frozen BK221.out 1; have hfz44_2 := blk_frozen BK221.out 2))
   refine bodyPost_ret (results_ct rfl _ _ gb221 35 #[.bool false, .bool false, .bool false] (0, 0) _ rfl (by (with_reducible repeat (first | refine blk_drewN ?_ _ | refine blk_drew ?_ | refine blk_alloc ?_ _)); apply blk_all3_; (with_reducible repeat (first | refine blk_drewN ?_ _ | refine blk_drew ?_ | refine blk_alloc ?_ _)); exact BK221.out) Try.underlying35 rfl (by kernel_rfl)) rfl ?_
   exact ⟨by first | rfl | (simp [errW_none, errW_some] <;> rfl) | (simp [*, errW_none, errW_some] <;> rfl), by repeat (first | (with_reducible first | exact HB.out | apply below_alloc | apply pw_below_drewN | apply below_drew1 | refine below_set ?_ GE220.out | refine below_set ?_ GE221.out) | exact HB.out)⟩
 ·rw [if_neg c5] at H
  have c5b0 : (t222 == 0) = false := beq_eq_false_iff_ne.mpr c5
  have c5b1 : (t222 != 0) = true := bne_iff_ne.mpr c5
  simp only [Option.some.injEq, Prod.mk.injEq] at H
  obtain ⟨rfl, rfl, rfl, rfl⟩ := H
  go_enter Try.func12, Try.ntmps12
  go_wp2_with (first | ((with_reducible refine gate_dst (N := 4) rfl ?_); refine box_event ?hg (N := 4) ?hd (cs := #[.int .i64 a1_0, .string a1_1, .int .i64 a1_2, .bool a1_3, .int .i64 a1_4, .string a1_5, .int .i64 a1_6, .string a1_7, .slice A1_8 l1_8.length c1_8]) (t := 27) ?hr ?_; (case hd => rfl); (case hg => rfl); (case hr => first | (go_simp; done) | (go_simp; rfl)); intro gb220 hg w45 hbox hb; have n0_ := Aside0.mk (below_step (by repeat (first | (with_reducible first | exact HB.out | apply below_alloc | apply pw_below_drewN | apply below_drew1) | exact HB.out)) hb); have n1_ := Aside0.mk (hbox); have n2_ := Aside0.mk ((by rw [hg]; exact (below_size (by repeat (first | (with_reducible first | exact HB.out | apply below_alloc | apply pw_below_drewN | apply below_drew1) | exact HB.out))) : w.heap.size ≤ gb220)); have n3_ := Aside0.mk ((by rw [hg]; exact (below_size (by repeat (first | (with_reducible first | exact HB.out | apply below_alloc | apply pw_below_drewN | apply below_drew1) | exact HB.out))) : w.heap.size ≤ gb220)); clear HB; have HB := n0_; have BK220 := n1_; have GW220 := n2_; have GE220 := n3_; clear n0_ n1_ n2_ n3_; clear hb hbox hg) | ((with_reducible refine gate_dst (N := 6) rfl ?_); refine box_event ?hg (N := 6) ?hd (cs := #[.bool false, .bool false, .bool false]) (t := 35) ?hr ?_; (case hd => rfl); (case hg => rfl); (case hr => first | (go_simp; done) | (go_simp; rfl)); intro gb221 hg w46 hbox hb; have n0_ := Aside0.mk (blk_below (g := gb220) (o := .cells #[.int .i64 a1_0, .string a1_1, .int .i64 a1_2, .bool a1_3, .int .i64 a1_4, .string a1_5, .int .i64 a1_6, .string a1_7, .slice A1_8 l1_8.length c1_8] 27 (0, 0)) (by (with_reducible repeat (first | refine blk_drewN ?_ _ | refine blk_drew ?_ | refine blk_alloc ?_ _)); exact BK220.out) hb); have n1_ := Aside0.mk (below_step (by repeat (first | (with_reducible first | exact HB.out | apply below_alloc | apply pw_below_drewN | apply below_drew1 | refine below_set ?_ GE220.out) | exact HB.out)) hb); have n2_ := Aside0.mk (hbox); have n3_ := Aside0.mk ((by rw [hg]; exact (below_size (by repeat (first | (with_reducible first | exact HB.out | apply below_alloc | apply pw_below_drewN | apply below_drew1 | refine below_set ?_ GE220.out) | exact HB.out))) : w.heap.size ≤ gb221)); have n4_ := Aside0.mk ((by rw [hg]; exact (below_size (by repeat (first | (with_reducible first | exact HB.out | apply below_alloc | apply pw_below_drewN | apply below_drew1 | refine below_set ?_ GE220.out) | exact HB.out))) : w.heap.size ≤ gb221)); have n5_ := Aside0.mk ((by rw [hg]; exact Nat.ne_of_lt (blk_lt (g := gb220) (o := .cells #[.int .i64 a1_0, .string a1_1, .int .i64 a1_2, .bool a1_3, .int .i64 a1_4, .string a1_5, .int .i64 a1_6, .string a1_7, .slice A1_8 l1_8.length c1_8] 27 (0, 0)) (by (with_reducible repeat (first | refine blk_drewN ?_ _ | refine blk_drew ?_ | refine blk_alloc ?_ _)); exact BK220.out)) : gb220 ≠ gb221)); have n6_ := Aside0.mk ((by rw [hg]; exact Nat.ne_of_gt (blk_lt (g := gb220) (o := .cells #[.int .i64 a1_0, .string a1_1, .int .i64 a1_2, .bool a1_3, .int .i64 a1_4, .string a1_5, .int .i64 a1_6, .string a1_7, .slice A1_8 l1_8.length c1_8] 27 (0, 0)) (by (with_reducible repeat (first | refine blk_drewN ?_ _ | refine blk_drew ?_ | refine blk_alloc ?_ _)); exact BK220.out)) : gb221 ≠ gb220)); clear BK220; clear HB; have BK220 := n0_; have HB := n1_; have BK221 := n2_; have GW221 := n3_; have GE221 := n4_; have NB220_221 := n5_; have NB221_220 := n6_; clear n0_ n1_ n2_ n3_ n4_ n5_ n6_; clear hb hbox hg; have hnb47 := NB220_221.out; have hnc47 := NB221_220.out; have hcz48_0 : w46.cell? ⟨gb220, 0, none⟩ = some (.int .i64 a1_0) := (blk_cell BK220.out 0).trans rfl; have hcz48_1 : w46.cell? ⟨gb220, 1, none⟩ = some (.string a1_1) := (blk_cell BK220.out 1).trans rfl; have hcz48_2 : w46.cell? ⟨gb220, 2, none⟩ = some (.int .i64 a1_2) := (blk_cell BK220.out 2).trans rfl; have hcz48_3 : w46.cell? ⟨gb220, 3, none⟩ = some (.bool a1_3) := (blk_cell BK220.out 3).trans rfl; have hcz48_4 : w46.cell? ⟨gb220, 4, none⟩ = some (.int .i64 a1_4) := (blk_cell BK220.out 4).trans rfl; have hcz48_5 : w46.cell? ⟨gb220, 5, none⟩ = some (.string a1_5) := (blk_cell BK220.out 5).trans rfl; have hcz48_6 : w46.cell? ⟨gb220, 6, none⟩ = some (.int .i64 a1_6) := (blk_cell BK220.out 6).trans rfl; have hcz48_7 : w46.cell? ⟨gb220, 7, none⟩ = some (.string a1_7) := (blk_cell BK220.out 7).trans rfl; have hcz48_8 : w46.cell? ⟨gb220, 8, none⟩ = some (.slice A1_8 l1_8.length c1_8) := (blk_cell BK220.out 8).trans rfl; have hfz48_0 := blk_frozen BK220.out 0; have hfz48_1 := blk_frozen BK220.out 1; have hfz48_2 := blk_frozen BK220.out 2; have hfz48_3 := blk_frozen BK220.out 3; have hfz48_4 := blk_frozen BK220.out 4; have hfz48_5 := blk_frozen BK220.out 5; have hfz48_6 := blk_frozen BK220.out 6; have hfz48_7 := blk_frozen BK220.out 7; have hfz48_8 := blk_frozen BK220.out 8) | ((with_reducible refine gate_callee (f := 27) rfl ?_); refine goesL_ (some 13) rfl rfl Try.func27 (by kernel_rfl) rfl #[.slice A0 l0.length c0, .agg #[.int .i64 a1_0, .string a1_1, .int .i64 a1_2, .bool a1_3, .int .i64 a1_4, .string a1_5, .int .i64 a1_6, .string a1_7, .slice A1_8 l1_8.length c1_8]] rfl (by (try simp only [List.map_toArray, List.map_cons, List.map_nil]); first | done | rfl | (simp only [List.length_drop, List.length_take]; rfl)) ?_; (with_reducible refine (pred_Fits.calls _ _ l0 a1_0 a1_1 a1_2 a1_3 a1_4 a1_5 a1_6 a1_7 _ _ l1_8 t222 _ ?side1 ?side2 ?side3 ?side4 A4.out).mono ?_); (case side1 => repeat (first | exact (Kd.C_below HR0.out HB.out) | (with_reducible refine Kd.C_alloc ?_ _) | (with_reducible refine Kd.C_drewN ?_ _) | (with_reducible refine Kd.C_drew ?_))); (case side2 => exact HC0.out); (case side3 => repeat (first | exact (Kd.C_below HR1_8.out HB.out) | (with_reducible refine Kd.C_alloc ?_ _) | (with_reducible refine Kd.C_drewN ?_ _) | (with_reducible refine Kd.C_drew ?_))); (case side4 => exact HC1_8.out); rintro e w49 ⟨rfl, hb⟩; refine ⟨_, rfl, ?_⟩; have n0_ := Aside0.mk (blk_below (g := gb220) (o := .cells #[.int .i64 a1_0, .string a1_1, .int .i64 a1_2, .bool a1_3, .int .i64 a1_4, .string a1_5, .int .i64 a1_6, .string a1_7, .slice A1_8 l1_8.length c1_8] 27 (0, 0)) (by (with_reducible repeat (first | refine blk_drewN ?_ _ | refine blk_drew ?_ | refine blk_alloc ?_ _)); exact BK220.out) hb); have n1_ := Aside0.mk (blk_below (g := gb221) (o := .cells #[.bool false, .bool false, .bool false] 35 (0, 0)) (by (with_reducible repeat (first | refine blk_drewN ?_ _ | refine blk_drew ?_ | refine blk_alloc ?_ _)); exact BK221.out) hb); have n2_ := Aside0.mk (below_step (by repeat (first | (with_reducible first | exact HB.out | apply below_alloc | apply pw_below_drewN | apply below_drew1 | refine below_set ?_ GE220.out | refine below_set ?_ GE221.out) | exact HB.out)) hb); clear BK220; clear BK221; clear HB; have BK220 := n0_; have BK221 := n1_; have HB := n2_; clear n0_ n1_ n2_; (try clear hb); (try clear hb2); (try clear hk); (try clear hi); have hcz50_0 : w49.cell? ⟨gb221, 0, none⟩ = some (.bool false) := (blk_cell BK221.out 0).trans rfl; have hcz50_1 : w49.cell? ⟨gb221, 1, none⟩ = some (.bool false) := (blk_cell BK221.out 1).trans rfl; have hcz50_2 : w49.cell? ⟨gb221, 2, none⟩ = some (.bool false) := (blk_cell BK221.out 2).trans rfl; have hfz50_0 := blk_frozen BK221.out 0; have hfz50_1 := blk_frozen BK221.out 1; have hfz50_2 := blk_frozen BK221.out 2))
  refine bodyPost_ret (results_ct rfl _ _ gb221 35 #[.bool false, .bool false, .bool false] (0, 0) _ rfl (by (with_reducible repeat (first | refine blk_drewN ?_ _ | refine blk_drew ?_ | refine blk_alloc ?_ _)); apply blk_all3_; (with_reducible repeat (first | refine blk_drewN ?_ _ | refine blk_drew ?_ | refine blk_alloc ?_ _)); exact BK221.out) Try.underlying35 rfl (by kernel_rfl)) rfl ?_
  exact ⟨by first | rfl | (simp [errW_none, errW_some] <;> rfl) | (simp [*, errW_none, errW_some] <;> rfl), by repeat (first | (with_reducible first | exact HB.out | apply below_alloc | apply pw_below_drewN | apply below_drew1 | refine below_set ?_ GE220.out | refine below_set ?_ GE221.out) | exact HB.out)⟩
end Go.Proofs.Ytdedmhmomoejkaa.X
namespace Go.Proofs.Ytdedmhmomoejkaa.X
open Go.RowKit Go.Proofs.YtdedmhmomoejkaaW.PrintWords Go.Proofs.YtdedmhmomoejkaaW.PrintLast
set_option linter.unusedVariables false
set_option linter.unusedSimpArgs false
theorem Ev.const {α : Type} {o : Option α} {r : α} (h : o = some r) : Ev (fun _ => o) r := ⟨0, fun _ _ => h⟩
def Tot {α : Type} (g : Nat → Option α) : Prop := ∃ r, Ev g r
theorem Tot.some_ {α : Type} (r : α) : Tot (fun _ => some r) := ⟨r, Ev.now r⟩
theorem Tot.const {α : Type} {o : Option α} (h : Ans o) : Tot (fun _ => o) := by
  obtain ⟨r, h⟩ := h
  exact ⟨r, Ev.const h⟩
theorem Tot.ite {α : Type} {c : Prop} [Decidable c] {f g : Nat → Option α} (h : c → Tot f) (h' : ¬ c → Tot g) : Tot (fun k => if c then f k else g k) := by
  by_cases hc : c
  · simp only [if_pos hc]; exact h hc
  · simp only [if_neg hc]; exact h' hc
theorem Tot.bind {α β : Type} {g : Nat → Option α} {f : Nat → α → Option β} (h : Tot g) (k : ∀ x, Tot (fun n => f n x)) : Tot (fun n => (g n).bind (f n)) := by
  obtain ⟨x, hx⟩ := h
  obtain ⟨r, hr⟩ := k x
  exact ⟨r, Ev.bind hx hr⟩
theorem Tot.succ {α : Type} {g f : Nat → Option α} (h : ∀ k, g (k + 1) = f k) (k : Tot f) : Tot g := by
  obtain ⟨r, hr⟩ := k
  exact ⟨r, Ev.step h hr⟩
theorem or3 (a b c : Int) (k : Nat) : cmp_Or_int.f (k + 4) [a, b, c] = some (if a = 0 then (if b = 0 then c else b) else a) := by
  have w0 : wrap64 1 = 1 := by unfold wrap64; omega
  have w1 : wrap64 2 = 2 := by unfold wrap64; omega
  have w2 : wrap64 3 = 3 := by unfold wrap64; omega
  by_cases ha : a = 0
  · by_cases hb : b = 0
    · by_cases hc : c = 0
      · simp [cmp_Or_int.f, cmp_Or_int.l0, rd, ha, hb, hc, w0, w1, w2]
      · simp [cmp_Or_int.f, cmp_Or_int.l0, rd, ha, hb, hc, w0, w1, w2]
    · simp [cmp_Or_int.f, cmp_Or_int.l0, rd, ha, hb, w0, w1, w2]
  · simp [cmp_Or_int.f, cmp_Or_int.l0, rd, ha, w0, w1, w2]
theorem or3_ev (a b c : Int) : Ev (fun k => cmp_Or_int.f k [a, b, c]) (if a = 0 then (if b = 0 then c else b) else a) :=
  ⟨4, fun k hk => by obtain ⟨m, rfl⟩ : ∃ m, k = m + 4 := ⟨k - 4, by omega⟩; exact or3 a b c m⟩
def cmpI (a b : Int) : Int := if a < b then -1 else if a > b then 1 else 0
def cmpT (a b : ByteArray) : Int := if Op.bytesLess a.toList b.toList = true then -1 else if a.toList = b.toList then 0 else 1
theorem cmpI_f (a b : Int) : cmp_Compare_int.f a b = some (cmpI a b) := by
  simp only [cmp_Compare_int.f, cmp_isNaN_int.f, Option.bind_some, bne_self_eq_false, cmpI]
  simp
  split <;> simp_all
  split <;> simp_all
theorem cmpI64_f (a b : Int) : cmp_Compare_int64.f a b = some (cmpI a b) := by
  simp only [cmp_Compare_int64.f, cmp_isNaN_int64.f, Option.bind_some, bne_self_eq_false, cmpI]
  simp
  split <;> simp_all
  split <;> simp_all
theorem cmpT_f (a b : ByteArray) : cmp_Compare_string.f a b = some (cmpT a b) := by
  simp only [cmp_Compare_string.f, cmp_isNaN_string.f, Option.bind_some, bne_self_eq_false, cmpT]
  simp
  split <;> simp_all
  split <;> simp_all
def flagI (b : Bool) : Int := if b then 0 else 1
theorem flag_f (a : Bool) (b : Int) (c : ByteArray) : cell_flag.f a b c = some (flagI a) := by
  cases a <;> rfl
def ord (a0 : Bool) (a1 : Int) (a2 : ByteArray) (b0 : Bool) (b1 : Int) (b2 : ByteArray) : Int :=
  if cmpI (flagI a0) (flagI b0) = 0 then (if cmpI a1 b1 = 0 then cmpT a2 b2 else cmpI a1 b1) else cmpI (flagI a0) (flagI b0)
theorem ord_ev (a0 : Bool) (a1 : Int) (a2 : ByteArray) (b0 : Bool) (b1 : Int) (b2 : ByteArray) : Ev (fun k => cell_Order.f k a0 a1 a2 b0 b1 b2) (ord a0 a1 a2 b0 b1 b2) := by
  obtain ⟨K, h⟩ := or3_ev (cmpI (flagI a0) (flagI b0)) (cmpI a1 b1) (cmpT a2 b2)
  refine ⟨K, fun k hk => ?_⟩
  have := h k hk
  simp only [cell_Order.f, flag_f, Option.bind_some, cmpI_f, cmpI64_f, cmpT_f, this, ord]
def hasB (lo hi : S24) (rows nulls : Int) (v : S24) : Bool :=
  if v.f0 then decide (nulls > 0) else if rows > nulls then (if ord v.f0 v.f1 v.f2 lo.f0 lo.f1 lo.f2 ≥ 0 then decide (ord v.f0 v.f1 v.f2 hi.f0 hi.f1 hi.f2 ≤ 0) else false) else false
theorem ev_ite {α : Type} {c : Prop} [Decidable c] {f g : Nat → Option α} {r s : α} (h : c → Ev f r) (h' : ¬ c → Ev g s) : Ev (fun k => if c then f k else g k) (if c then r else s) := by
  by_cases hc : c
  · simp only [if_pos hc]; exact h hc
  · simp only [if_neg hc]; exact h' hc
theorem has_ev (z0 z1 : Int) (z2 : Bool) (z3 : Int) (z4 : ByteArray) (z5 : Bool) (z6 : Int) (z7 : ByteArray) (a0 : Bool) (a1 : Int) (a2 : ByteArray) :
    Ev (fun k => zone_Has.f k z0 z1 z2 z3 z4 z5 z6 z7 a0 a1 a2) (hasB ⟨z2, z3, z4⟩ ⟨z5, z6, z7⟩ z0 z1 ⟨a0, a1, a2⟩) := by
  unfold zone_Has.f hasB zone_some.f
  refine ev_ite (fun _ => Ev.now _) (fun _ => ?_)
  simp only [Option.bind_some, decide_eq_true_eq]
  refine ev_ite (fun _ => ?_) (fun _ => Ev.now _)
  refine Ev.bind (ord_ev _ _ _ _ _ _) ?_
  refine ev_ite (fun _ => ?_) (fun _ => Ev.now _)
  exact Ev.bind (ord_ev _ _ _ _ _ _) (Ev.now _)
theorem can_tot (z0 z1 : Int) (z2 : Bool) (z3 : Int) (z4 : ByteArray) (z5 : Bool) (z6 : Int) (z7 : ByteArray) (op : Int) (a0 : Bool) (a1 : Int) (a2 : ByteArray) :
    Tot (fun k => prune_can.f k z0 z1 z2 z3 z4 z5 z6 z7 op a0 a1 a2) := by
  unfold prune_can.f
  refine Tot.ite (fun _ => Tot.bind ⟨_, has_ev _ _ _ _ _ _ _ _ _ _ _⟩ (fun _ => Tot.some_ _)) (fun _ => ?_)
  repeat' (first | exact Tot.some_ _ | exact ⟨_, ord_ev _ _ _ _ _ _⟩ | refine Tot.ite (fun _ => ?_) (fun _ => ?_) | refine Tot.bind ?_ (fun _ => ?_))
end Go.Proofs.Ytdedmhmomoejkaa.X
namespace Go.Proofs.Ytdedmhmomoejkaa.X
open Go.RowKit Go.Proofs.YtdedmhmomoejkaaW.PrintWords Go.Proofs.YtdedmhmomoejkaaW.PrintLast
set_option linter.unusedVariables false
set_option linter.unusedSimpArgs false
theorem fields_cases (x : S27) (h : fieldsB x = true) : x.f0 = 1 ∨ ((x.f0 = 2 ∨ x.f0 = 3 ∨ x.f0 = 4) ∧ nameB x.f1 = true) ∨ (x.f0 = 5 ∨ x.f0 = 6 ∨ x.f0 = 7) := by
  have hs := fields_some x
  rw [h] at hs
  by_cases h1 : x.f0 = 1
  · exact .inl h1
  by_cases h5 : x.f0 = 5 ∨ x.f0 = 6 ∨ x.f0 = 7
  · exact .inr (.inr h5)
  have h5' : x.f0 ≠ 5 ∧ x.f0 ≠ 6 ∧ x.f0 ≠ 7 := by omega
  refine .inr (.inl ?_)
  unfold pred_fields.f at hs
  obtain ⟨b, _, hs⟩ := Option.bind_eq_some_iff.1 hs
  obtain ⟨c, _, hs⟩ := Option.bind_eq_some_iff.1 hs
  simp only [schema_Name.f, Option.bind_some] at hs
  by_cases h2 : x.f0 = 2
  · refine ⟨.inl h2, ?_⟩
    cases hn : nameB x.f1
    · rw [hn] at hs; simp [h2] at hs
    · rfl
  by_cases h3 : x.f0 = 3
  · refine ⟨.inr (.inl h3), ?_⟩
    cases hn : nameB x.f1
    · rw [hn] at hs; simp [h3] at hs
    · rfl
  by_cases h4 : x.f0 = 4
  · refine ⟨.inr (.inr h4), ?_⟩
    cases hn : nameB x.f1
    · rw [hn] at hs; simp [h4] at hs
    · rfl
  exfalso
  have hlt : x.f0 < 5 ∨ 7 < x.f0 := by omega
  simp [h1, h2, h3, h4] at hs
  rcases hlt with hlt | hlt
  · have : ¬ (5 ≤ x.f0) := by omega
    simp [this] at hs
  · have h5 : 5 ≤ x.f0 := by omega
    have : ¬ (x.f0 ≤ 7) := by omega
    simp [h5, this] at hs
theorem name_ne (s : ByteArray) (h : nameB s = true) : s.toList ≠ [] := by
  intro e
  have : s.size = 0 := by
    rw [ByteArray.toList_eq] at e
    have := data_length s
    rw [e] at this
    exact this.symm
  simp [nameB, this] at h
theorem typed_found (l : List S64) (x : S27) (h : typedB l x = true) (hn : x.f1.toList ≠ []) : 0 ≤ idxOf (fun y : S64 => y.f0.toList == x.f1.toList) l := by
  have hs := typed_some l x
  rw [h] at hs
  unfold pred_typed.f schema_Find.f at hs
  rw [if_neg hn] at hs
  simp only [Option.bind_some] at hs
  cases hd : decide (0 ≤ idxOf (fun y : S64 => y.f0.toList == x.f1.toList) l)
  · rw [hd] at hs; simp at hs
  · exact of_decide_eq_true hd
def Good {σ : Type} (st : S27 → σ → Bool × σ) (d : Nat) (x : S27) : Prop := ∃ s, (ev st d x s).1 = true
theorem evL_all {σ : Type} (f : S27 → σ → Bool × σ) : ∀ (l : List S27) (s : σ), (evL f l s).1 = true → ∀ y, y ∈ l → ∃ s', (f y s').1 = true
  | [], _, _, y, hy => by cases hy
  | x :: r, s, h, y, hy => by
    unfold evL at h
    cases hb : (f x s).1 with
    | false => rw [hb] at h; simp at h
    | true =>
      rw [hb] at h
      rcases List.mem_cons.1 hy with rfl | hy
      · exact ⟨s, hb⟩
      · exact evL_all f r _ (by simpa using h) y hy
theorem Good.step {σ : Type} {st : S27 → σ → Bool × σ} {d : Nat} {x : S27} (h : Good st d x) : ∃ e, d = e + 1 ∧ (∃ s, (st x s).1 = true) ∧ ∀ y, y ∈ x.f6 → Good st e y := by
  obtain ⟨s, h⟩ := h
  cases d with
  | zero => simp [ev] at h
  | succ e =>
    refine ⟨e, rfl, ?_⟩
    unfold ev at h
    cases hb : (st x s).1 with
    | false => rw [hb] at h; simp at h
    | true =>
      rw [hb] at h
      exact ⟨⟨s, hb⟩, evL_all _ _ _ (by simpa using h)⟩
theorem simple_tot (l : List S64) (zs : List S33) (hz : zs.length = l.length) (x : S27) (hf : fieldsB x = true) (ht : typedB l x = true) (h5 : x.f0 ≠ 5) (h6 : x.f0 ≠ 6) (h7 : x.f0 ≠ 7) :
    Tot (fun k => prune_asker_simple.f k l zs x.f0 x.f1 x.f2 x.f3.f0 x.f3.f1 x.f3.f2 x.f4 x.f5 x.f6) := by
  unfold prune_asker_simple.f
  refine Tot.ite (fun _ => Tot.some_ _) (fun h1 => ?_)
  have hn : nameB x.f1 = true := by
    rcases fields_cases x hf with h | h | h
    · exact absurd h h1
    · exact h.2
    · rcases h with h | h | h <;> simp_all
  have hi := typed_found l x ht (name_ne _ hn)
  have hl := idxOf_lt (fun y : S64 => y.f0.toList == x.f1.toList) l
  simp only [schema_Find.f, Option.bind_some]
  generalize idxOf (fun y : S64 => y.f0.toList == x.f1.toList) l = q at hi hl ⊢
  have hq : mx q 0 = q := by unfold mx; split <;> omega
  rw [hq]
  refine Tot.ite (fun _ => ?_) (fun h => absurd hi h)
  refine Tot.ite (fun _ => ?_) (fun h => absurd (by omega) h)
  refine Tot.ite (fun _ => Tot.some_ _) (fun _ => ?_)
  refine Tot.ite (fun _ => ?_) (fun _ => Tot.some_ _)
  refine Tot.ite (fun _ => ?_) (fun _ => Tot.some_ _)
  refine Tot.bind (can_tot _ _ _ _ _ _ _ _ _ _ _ _) (fun _ => ?_)
  refine Tot.bind (Tot.const ?_) (fun _ => ?_)
  · unfold prune_opposite.f
    repeat' (first | exact Ans.some_ _ | refine Ans.ite ?_ ?_)
  exact Tot.bind (can_tot _ _ _ _ _ _ _ _ _ _ _ _) (fun _ => Tot.some_ _)
end Go.Proofs.Ytdedmhmomoejkaa.X
namespace Go.Proofs.Ytdedmhmomoejkaa.X
open Go.RowKit Go.Proofs.YtdedmhmomoejkaaW.PrintWords Go.Proofs.YtdedmhmomoejkaaW.PrintLast
set_option linter.unusedVariables false
set_option linter.unusedSimpArgs false
theorem wrap_in {i : Int} (h0 : -9223372036854775808 ≤ i) (h1 : i ≤ 9223372036854775807) : wrap64 i = i := by unfold wrap64; omega
theorem rd27_mem (l : List S27) (i : Nat) (h : i < l.length) : rd_T27 l (i : Int) ∈ l := by
  simp only [rd_T27, Int.toNat_natCast, List.getD_eq_getElem?_getD, List.getElem?_eq_getElem h, Option.getD_some]
  exact List.getElem_mem h
theorem and_ans (a b c d e f : Bool) : Ans (prune_Truths_and.f a b c d e f) := by
  unfold prune_Truths_and.f
  repeat' (first | exact Ans.some_ _ | refine Ans.ite ?_ ?_)
theorem ask_l0_tot (l : List S64) (zs : List S33) (kids : List S27) (hk : kids.length ≤ 9223372036854775806) (h : ∀ y, y ∈ kids → Tot (fun k => prune_asker_ask.f k l zs y.f0 y.f1 y.f2 y.f3.f0 y.f3.f1 y.f3.f2 y.f4 y.f5 y.f6)) :
    ∀ (n i : Nat) (a b c : Bool), i + n = kids.length → Tot (fun k => prune_asker_ask.l0 k kids (kids.length : Int) (i : Int) l zs a b c) := by
  intro n
  induction n with
  | zero =>
    intro i a b c hi
    refine Tot.succ (f := fun _ => some (a, b, c)) (fun k => ?_) (Tot.some_ _)
    simp only [prune_asker_ask.l0]
    rw [if_neg (by omega)]
  | succ n ih =>
    intro i a b c hi
    refine Tot.succ (fun k => by simp only [prune_asker_ask.l0]; rfl) ?_
    refine Tot.ite (fun _ => ?_) (fun h' => absurd (by omega) h')
    refine Tot.ite (fun _ => ?_) (fun h' => absurd (by omega) h')
    refine Tot.ite (fun _ => ?_) (fun h' => absurd (by omega) h')
    refine Tot.bind (h _ (rd27_mem kids i (by omega))) (fun t => ?_)
    refine Tot.bind (Tot.const (and_ans _ _ _ _ _ _)) (fun u => ?_)
    rw [wrap_in (by omega) (by omega), show (i : Int) + 1 = ((i + 1 : Nat) : Int) by omega]
    exact ih (i + 1) _ _ _ (by omega)
theorem ask_l1_tot (l : List S64) (zs : List S33) (kids : List S27) (hk : kids.length ≤ 9223372036854775806) (h : ∀ y, y ∈ kids → Tot (fun k => prune_asker_ask.f k l zs y.f0 y.f1 y.f2 y.f3.f0 y.f3.f1 y.f3.f2 y.f4 y.f5 y.f6)) :
    ∀ (n i : Nat) (a b c : Bool), i + n = kids.length → Tot (fun k => prune_asker_ask.l1 k kids (kids.length : Int) (i : Int) l zs a b c) := by
  intro n
  induction n with
  | zero =>
    intro i a b c hi
    refine Tot.succ (f := fun k => (prune_Truths_not.f a b c).bind fun t => some (t.1, t.2.1, t.2.2)) (fun k => ?_) (Tot.const (by simp only [prune_Truths_not.f, Option.bind_some]; exact Ans.some_ _))
    simp only [prune_asker_ask.l1]
    rw [if_neg (by omega)]
  | succ n ih =>
    intro i a b c hi
    refine Tot.succ (fun k => by simp only [prune_asker_ask.l1]; rfl) ?_
    refine Tot.ite (fun _ => ?_) (fun h' => absurd (by omega) h')
    refine Tot.ite (fun _ => ?_) (fun h' => absurd (by omega) h')
    refine Tot.ite (fun _ => ?_) (fun h' => absurd (by omega) h')
    refine Tot.bind (h _ (rd27_mem kids i (by omega))) (fun t => ?_)
    refine Tot.bind (Tot.const (by unfold prune_Truths_not.f; exact Ans.some_ _)) (fun v => ?_)
    refine Tot.bind (Tot.const (and_ans _ _ _ _ _ _)) (fun u => ?_)
    rw [wrap_in (by omega) (by omega), show (i : Int) + 1 = ((i + 1 : Nat) : Int) by omega]
    exact ih (i + 1) _ _ _ (by omega)
theorem kids_len (op : Int) (ks : List S27) (h : kidsB op ks = true) (h5 : op = 5) : ks.length = 1 := by
  subst h5
  simpa [kidsB] using h
def Lens : Nat → S27 → Prop
  | 0, _ => True
  | d + 1, x => x.f6.length ≤ 9223372036854775806 ∧ ∀ y, y ∈ x.f6 → Lens d y
theorem ask_tot (l : List S64) (zs : List S33) (hz : zs.length = l.length) : ∀ (d : Nat) (x : S27), Lens d x → Good mayStep d x → Good (typedStep l) d x →
    Tot (fun k => prune_asker_ask.f k l zs x.f0 x.f1 x.f2 x.f3.f0 x.f3.f1 x.f3.f2 x.f4 x.f5 x.f6) := by
  intro d
  induction d with
  | zero => intro x _ h _; obtain ⟨e, h, _⟩ := h.step; omega
  | succ d ih =>
    intro x hl hm ht
    obtain ⟨e, he, ⟨s, hs⟩, hmk⟩ := hm.step
    obtain ⟨e', he', ⟨s', hs'⟩, htk⟩ := ht.step
    have he1 : e = d := by omega
    have he2 : e' = d := by omega
    rw [he1] at hmk
    rw [he2] at htk
    have hlen : x.f6.length ≤ 9223372036854775806 := hl.1
    have hk : ∀ y, y ∈ x.f6 → Tot (fun k => prune_asker_ask.f k l zs y.f0 y.f1 y.f2 y.f3.f0 y.f3.f1 y.f3.f2 y.f4 y.f5 y.f6) := fun y hy => ih y (hl.2 y hy) (hmk y hy) (htk y hy)
    simp only [mayStep, Bool.and_eq_true] at hs
    have hty : typedB l x = true := hs'
    refine Tot.succ (fun k => by simp only [prune_asker_ask.f]; rfl) ?_
    refine Tot.ite (fun h5 => ?_) (fun h5 => ?_)
    · have h1 := kids_len x.f0 x.f6 hs.2.2 h5
      refine Tot.ite (fun _ => ?_) (fun h' => absurd (by omega) h')
      refine Tot.bind (hk _ (rd27_mem x.f6 0 (by omega))) (fun t => ?_)
      exact Tot.bind (Tot.const (by unfold prune_Truths_not.f; exact Ans.some_ _)) (fun v => Tot.some_ _)
    · refine Tot.ite (fun h6 => ask_l0_tot l zs x.f6 hlen hk x.f6.length 0 _ _ _ (by omega)) (fun h6 => ?_)
      refine Tot.ite (fun h7 => ask_l1_tot l zs x.f6 hlen hk x.f6.length 0 _ _ _ (by omega)) (fun h7 => ?_)
      exact Tot.bind (simple_tot l zs hz x hs.2.1 hty h5 h6 h7) (fun _ => Tot.some_ _)
theorem cellMay_ans (a : Int) (b c : Bool) (d : Int) (e : ByteArray) : Ans (cell_May.f a b c d e) := by
  unfold cell_May.f
  repeat' (first | exact Ans.some_ _ | refine Ans.ite ?_ ?_)
theorem zone_tot (ty z0 z1 : Int) (z2 : Bool) (z3 : Int) (z4 : ByteArray) (z5 : Bool) (z6 : Int) (z7 : ByteArray) : Tot (fun k => zone_May.f k ty z0 z1 z2 z3 z4 z5 z6 z7) := by
  have h1 : ∀ b, Tot (fun k => zone_May.j1 k ty b z0 z1 z2 z3 z4 z5 z6 z7) := by
    intro b
    refine Tot.succ (fun k => by simp only [zone_May.j1]; rfl) ?_
    refine Tot.ite (fun _ => Tot.some_ _) (fun _ => ?_)
    refine Tot.bind (Tot.const (by unfold zone_some.f; exact Ans.some_ _)) (fun _ => ?_)
    refine Tot.ite (fun _ => ?_) (fun _ => Tot.const (by repeat' (first | exact Ans.some_ _ | refine Ans.ite ?_ ?_)))
    refine Tot.bind (Tot.const (cellMay_ans _ _ _ _ _)) (fun _ => ?_)
    refine Tot.ite (fun _ => ?_) (fun _ => Tot.some_ _)
    refine Tot.bind (Tot.const (cellMay_ans _ _ _ _ _)) (fun _ => ?_)
    refine Tot.ite (fun _ => ?_) (fun _ => Tot.some_ _)
    exact Tot.bind ⟨_, ord_ev _ _ _ _ _ _⟩ (fun _ => Tot.some_ _)
  have h0 : ∀ b, Tot (fun k => zone_May.j0 k ty b z0 z1 z2 z3 z4 z5 z6 z7) := by
    intro b
    refine Tot.succ (fun k => by simp only [zone_May.j0]; rfl) ?_
    refine Tot.ite (fun _ => Tot.some_ _) (fun _ => ?_)
    repeat' (first | exact h1 _ | refine Tot.ite (fun _ => ?_) (fun _ => ?_))
  unfold zone_May.f
  exact Tot.ite (fun _ => h0 _) (fun _ => h0 _)
theorem askLoop_tot (l : List S64) (zs : List S33) (x : S27) (hz : zs.length = l.length) (hzl : zs.length ≤ 9223372036854775806) (h : Tot (fun k => prune_asker_ask.f k l zs x.f0 x.f1 x.f2 x.f3.f0 x.f3.f1 x.f3.f2 x.f4 x.f5 x.f6)) :
    ∀ (n i : Nat), i + n = zs.length → Tot (fun k => prune_Ask.l0 k l zs zs (zs.length : Int) (i : Int) x.f0 x.f1 x.f2 x.f3.f0 x.f3.f1 x.f3.f2 x.f4 x.f5 x.f6) := by
  intro n
  induction n with
  | zero =>
    intro i hi
    refine Tot.succ (fun k => by simp only [prune_Ask.l0]; rfl) ?_
    refine Tot.ite (fun h' => absurd h' (by omega)) (fun _ => ?_)
    exact Tot.bind h (fun _ => Tot.some_ _)
  | succ n ih =>
    intro i hi
    refine Tot.succ (fun k => by simp only [prune_Ask.l0]; rfl) ?_
    refine Tot.ite (fun _ => ?_) (fun h' => absurd (by omega) h')
    refine Tot.ite (fun _ => ?_) (fun h' => absurd (by omega) h')
    refine Tot.ite (fun _ => ?_) (fun h' => absurd (by omega) h')
    refine Tot.ite (fun _ => ?_) (fun h' => absurd (by omega) h')
    refine Tot.bind (zone_tot _ _ _ _ _ _ _ _ _) (fun t => ?_)
    refine Tot.ite (fun _ => ?_) (fun _ => Tot.some_ _)
    rw [wrap_in (by omega) (by omega), show (i : Int) + 1 = ((i + 1 : Nat) : Int) by omega]
    exact ih (i + 1) (by omega)
theorem Ask_tot (l : List S64) (zs : List S33) (x : S27) (hzl : zs.length ≤ 9223372036854775806) (hl : Lens 6 x) : Tot (fun k => prune_Ask.f k l x.f0 x.f1 x.f2 x.f3.f0 x.f3.f1 x.f3.f2 x.f4 x.f5 x.f6 zs) := by
  unfold prune_Ask.f
  simp only [pred_Fits.f, Option.bind_some]
  refine Tot.ite (fun h0 => ?_) (fun _ => Tot.some_ _)
  refine Tot.ite (fun hz => ?_) (fun _ => Tot.some_ _)
  have hm : mayB x = true ∧ (ev (typedStep l) 6 x ()).1 = true := by
    have h0 : fitsE l x = 0 := h0
    unfold fitsE at h0
    by_cases hc : mayB x = true ∧ checkE l = 0
    · refine ⟨hc.1, ?_⟩
      rw [if_pos hc] at h0
      cases hb : (ev (typedStep l) 6 x ()).1
      · rw [hb] at h0; simp at h0
      · rfl
    · rw [if_neg hc] at h0
      omega
  have ht := ask_tot l zs (by omega) 6 x hl ⟨0, hm.1⟩ ⟨(), hm.2⟩
  have := askLoop_tot l zs x (by omega) hzl ht zs.length 0 (by omega)
  simpa using this
theorem Ask_zero (l : List S64) (zs : List S33) (x : S27) (a b c : Bool) : ∀ (k : Nat) (i : Int), prune_Ask.l0 k l zs zs (zs.length : Int) i x.f0 x.f1 x.f2 x.f3.f0 x.f3.f1 x.f3.f2 x.f4 x.f5 x.f6 = some (a, b, c, 0) →
    ∃ k', prune_asker_ask.f k' l zs x.f0 x.f1 x.f2 x.f3.f0 x.f3.f1 x.f3.f2 x.f4 x.f5 x.f6 = some (a, b, c)
  | 0, i, h => by simp [prune_Ask.l0] at h
  | k + 1, i, h => by
    simp only [prune_Ask.l0] at h
    split at h
    · split at h
      · split at h
        · obtain ⟨t, _, h⟩ := Option.bind_eq_some_iff.1 h
          split at h
          · exact Ask_zero l zs x a b c k _ h
          · simp at h
        · cases h
      · cases h
    · obtain ⟨t, ht, h⟩ := Option.bind_eq_some_iff.1 h
      simp only [Option.some.injEq, Prod.mk.injEq] at h
      refine ⟨k, ?_⟩
      rw [ht]
      obtain ⟨h1, h2, h3, _⟩ := h
      rw [← h1, ← h2, ← h3]
theorem Ask_zero' (l : List S64) (zs : List S33) (x : S27) (a b c : Bool) (k : Nat) (h : prune_Ask.f k l x.f0 x.f1 x.f2 x.f3.f0 x.f3.f1 x.f3.f2 x.f4 x.f5 x.f6 zs = some (a, b, c, 0)) :
    ∃ k', prune_asker_ask.f k' l zs x.f0 x.f1 x.f2 x.f3.f0 x.f3.f1 x.f3.f2 x.f4 x.f5 x.f6 = some (a, b, c) := by
  unfold prune_Ask.f at h
  obtain ⟨t, _, h⟩ := Option.bind_eq_some_iff.1 h
  split at h
  · split at h
    · exact Ask_zero l zs x a b c k 0 h
    · simp at h
  · simp only [Option.some.injEq, Prod.mk.injEq] at h
    omega
def notP (x : S27) : S27 := ⟨5, ⟨#[]⟩, 0, ⟨false, 0, ⟨#[]⟩⟩, 0, ⟨#[]⟩, [x]⟩
theorem not_swaps (l : List S64) (zs : List S33) (x : S27) (a b c a' b' c' : Bool) (k k' : Nat) (h : prune_Ask.f k l x.f0 x.f1 x.f2 x.f3.f0 x.f3.f1 x.f3.f2 x.f4 x.f5 x.f6 zs = some (a, b, c, 0))
    (h' : prune_Ask.f k' l 5 ⟨#[]⟩ 0 false 0 ⟨#[]⟩ 0 ⟨#[]⟩ [x] zs = some (a', b', c', 0)) : a' = b ∧ b' = a ∧ c' = c := by
  obtain ⟨m, hm⟩ := Ask_zero' l zs x a b c k h
  obtain ⟨m', hm'⟩ := Ask_zero' l zs (notP x) a' b' c' k' h'
  cases m' with
  | zero => simp [prune_asker_ask.f] at hm'
  | succ m' =>
    simp only [prune_asker_ask.f, notP] at hm'
    rw [if_pos (by simp)] at hm'
    obtain ⟨t, ht, hm'⟩ := Option.bind_eq_some_iff.1 hm'
    have hx : rd_T27 [x] 0 = x := rfl
    rw [hx] at ht
    have e1 := at_rounds (fun k => prune_asker_ask.mono l zs x.f0 x.f1 x.f2 x.f3.f0 x.f3.f1 x.f3.f2 x.f4 x.f5 x.f6 k) (Nat.le_max_left m m') hm
    have e2 := at_rounds (fun k => prune_asker_ask.mono l zs x.f0 x.f1 x.f2 x.f3.f0 x.f3.f1 x.f3.f2 x.f4 x.f5 x.f6 k) (Nat.le_max_right m m') ht
    rw [e1] at e2
    injection e2 with e2
    subst e2
    simp only [prune_Truths_not.f, Option.bind_some, Option.some.injEq, Prod.mk.injEq] at hm'
    obtain ⟨h1, h2, h3⟩ := hm'
    exact ⟨h1.symm, h2.symm, h3.symm⟩
end Go.Proofs.Ytdedmhmomoejkaa.X
namespace Go.Proofs.Ytdedmhmomoejkaa.X
open Go.RowKit Go.Proofs.YtdedmhmomoejkaaW.PrintWords Go.Proofs.YtdedmhmomoejkaaW.PrintLast Go.Proofs.YtdedmhmomoejkaaW.PrintMore
attribute [local go_sem] max2_int max_two
set_option linter.unusedVariables false
set_option linter.unusedSimpArgs false
theorem eqA35 (d : Nat) (w : World) (x0 y0 : Bool) (x1 y1 : Bool) (x2 y2 : Bool) :
    (Op.equalIn (d + 2) 35 (.agg #[.bool x0, .bool x1, .bool x2]) (.agg #[.bool y0, .bool y1, .bool y2])).run Try.prog w = .ok (x0 == y0 && (x1 == y1 && (x2 == y2))) w := by
  refine eqA_of Try.underlying35 (by kernel_rfl) ?_
  refine eqf_cons (by rfl) (by go_simp; rfl) (by go_simp; rfl) (by go_simp) ?_
  refine eqf_cons (by rfl) (by go_simp; rfl) (by go_simp; rfl) (by go_simp) ?_
  exact eqf_last (by rfl) (by go_simp; rfl) (by go_simp; rfl) (by go_simp)
end Go.Proofs.Ytdedmhmomoejkaa.X
namespace Go.Proofs.Ytdedmhmomoejkaa.X
open Go.RowKit Go.Proofs.YtdedmhmomoejkaaW.PrintWords Go.Proofs.YtdedmhmomoejkaaW.PrintLast Go.Proofs.YtdedmhmomoejkaaW.PrintMore
attribute [local go_sem] max2_int max_two
set_option linter.unusedVariables false
set_option linter.unusedSimpArgs false
def firkinlaw21_num.f (a0 : Int) : Option (Int) := some a0
set_option maxHeartbeats 8000000 in
set_option maxRecDepth 100000 in
theorem firkinlaw21_num.calls (a0 : Int) (r : Int) (w : World) (h : firkinlaw21_num.f a0 = some r) :
  Calls Try.prog 14 #[.int .i64 a0] w fun e w' => e = .returned (.int .i64 r) ∧ Drawn0 w w' := by
 have H : (some a0) = some r := h
 clear h
 obtain rfl := Option.some.inj H
 go_enter Try.func14, Try.ntmps14
 go_wp2
 go_ret
 exact ⟨by first | rfl | (simp; done) | (simp [*]; done), by repeat (first | exact Drawn0.refl _ | apply Drawn0.step)⟩
end Go.Proofs.Ytdedmhmomoejkaa.X
namespace Go.Proofs.Ytdedmhmomoejkaa.X
open Go.RowKit Go.Proofs.YtdedmhmomoejkaaW.PrintWords Go.Proofs.YtdedmhmomoejkaaW.PrintLast Go.Proofs.YtdedmhmomoejkaaW.PrintMore
attribute [local go_sem] max2_int max_two
set_option linter.unusedVariables false
set_option linter.unusedSimpArgs false
attribute [local go_sem high] eqA35
def prune_none.f (a0_0 : Bool) (a0_1 : Bool) (a0_2 : Bool) : Option (Bool) := some (!a0_0)
set_option maxHeartbeats 8000000 in
set_option maxRecDepth 100000 in
theorem prune_none.calls (a0_0 : Bool) (a0_1 : Bool) (a0_2 : Bool) (r : Bool) (w : World) (h : prune_none.f a0_0 a0_1 a0_2 = some r) :
  Calls Try.prog 33 #[.agg #[.bool a0_0, .bool a0_1, .bool a0_2]] w fun e w' => e = .returned (.bool r) ∧ Below w.heap.size w w' := by
 have hu35 := Try.underlying35
 have HB := Aside0.mk (Below.refl w.heap.size w)
 have H : (some (!a0_0)) = some r := h
 clear h
 obtain rfl := Option.some.inj H
 go_enter Try.func33, Try.ntmps33
 go_wp2_with (first | ((with_reducible refine gate_dst (N := 1) rfl ?_); refine box_event ?hg (N := 1) ?hd (cs := #[.bool a0_0, .bool a0_1, .bool a0_2]) (t := 35) ?hr ?_; (case hd => rfl); (case hg => rfl); (case hr => first | (go_simp; done) | (go_simp; rfl)); intro gb230 hg w2 hbox hb; have n0_ := Aside0.mk (below_step (by repeat (first | (with_reducible first | exact HB.out | apply below_alloc | apply pw_below_drewN | apply below_drew1) | exact HB.out)) hb); have n1_ := Aside0.mk (hbox); have n2_ := Aside0.mk ((by rw [hg]; exact (below_size (by repeat (first | (with_reducible first | exact HB.out | apply below_alloc | apply pw_below_drewN | apply below_drew1) | exact HB.out))) : w.heap.size ≤ gb230)); have n3_ := Aside0.mk ((by rw [hg]; exact (below_size (by repeat (first | (with_reducible first | exact HB.out | apply below_alloc | apply pw_below_drewN | apply below_drew1) | exact HB.out))) : w.heap.size ≤ gb230)); clear HB; have HB := n0_; have BK230 := n1_; have GW230 := n2_; have GE230 := n3_; clear n0_ n1_ n2_ n3_; clear hb hbox hg; have hcz3_0 : w2.cell? ⟨gb230, 0, none⟩ = some (.bool a0_0) := (blk_cell BK230.out 0).trans rfl; have hcz3_1 : w2.cell? ⟨gb230, 1, none⟩ = some (.bool a0_1) := (blk_cell BK230.out 1).trans rfl; have hcz3_2 : w2.cell? ⟨gb230, 2, none⟩ = some (.bool a0_2) := (blk_cell BK230.out 2).trans rfl; have hfz3_0 := blk_frozen BK230.out 0; have hfz3_1 := blk_frozen BK230.out 1; have hfz3_2 := blk_frozen BK230.out 2))
 go_ret
 exact ⟨by first | rfl | (simp [errW_none, errW_some] <;> rfl) | (simp [*, errW_none, errW_some] <;> rfl), by repeat (first | (with_reducible first | exact HB.out | apply below_alloc | apply pw_below_drewN | apply below_drew1 | refine below_set ?_ GE230.out) | exact HB.out)⟩
end Go.Proofs.Ytdedmhmomoejkaa.X
