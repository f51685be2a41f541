/- PruneNot: whatever the columns, the predicate and the zones, the law answers true: asking of the opposite predicate swaps Yes and No. It has no condition beyond the row of its statement. -/
import Derived.Test.YtdedmhmomoejkaaQ1
import Derived.Test.YtdedmhmomoejkaaQ11
import Derived.Test.YtdedmhmomoejkaaQ12
import Derived.Test.YtdedmhmomoejkaaRows
import Derived.WalkKit
import Derived.OpenShut
import Derived.ShutString
import Derived.ChangeOld
import Derived.Below
import Derived.SizedLaws
namespace Go.Proofs.Ytdedmhmomoejkaa.X
open Go.RowKit Go.Proofs.YtdedmhmomoejkaaW.PrintWords Go.Proofs.YtdedmhmomoejkaaW.PrintLast Go.Proofs.YtdedmhmomoejkaaW.PrintMore
attribute [local go_sem] max2_int max_two
set_option linter.unusedVariables false
set_option linter.unusedSimpArgs false
mutual
def firkinref17_Small.j0 : Nat → Int → Bool → Int → ByteArray → Int → Bool → Int → ByteArray → Int → ByteArray → List (S27) → Option (Bool)
 | 0, _, _, _, _, _, _, _, _, _, _, _ => none
 | k + 1, x1, x32, x103000, x103001, x103002, x103003, x103004, x103005, x103006, x103007, x103008 => if x32 = true then (some false) else (firkinref17_Small.l0 k x1 0 x103000 x103001 x103002 x103003 x103004 x103005 x103006 x103007 x103008)
def firkinref17_Small.l0 : Nat → Int → Int → Int → ByteArray → Int → Bool → Int → ByteArray → Int → ByteArray → List (S27) → Option (Bool)
 | 0, _, _, _, _, _, _, _, _, _, _, _ => none
 | k + 1, x1, x5, x103000, x103001, x103002, x103003, x103004, x103005, x103006, x103007, x103008 => if x5 < (x103008.length : Int) then (if 0 ≤ x5 then ((firkinref17_Small.f k ((rd_T27 x103008 x5).f0) ((rd_T27 x103008 x5).f1) ((rd_T27 x103008 x5).f2) ((rd_T27 x103008 x5).f3.f0) ((rd_T27 x103008 x5).f3.f1) ((rd_T27 x103008 x5).f3.f2) ((rd_T27 x103008 x5).f4) ((rd_T27 x103008 x5).f5) ((rd_T27 x103008 x5).f6) (wrap64 (x1 - 1))).bind fun t104 => (if t104 = true then (firkinref17_Small.l0 k x1 (wrap64 (x5 + 1)) x103000 x103001 x103002 x103003 x103004 x103005 x103006 x103007 x103008) else (some false))) else (none)) else (some true)
def firkinref17_Small.f : Nat → Int → ByteArray → Int → Bool → Int → ByteArray → Int → ByteArray → List (S27) → Int → Option (Bool)
 | 0, _, _, _, _, _, _, _, _, _, _ => none
 | k + 1, a0_0, a0_1, a0_2, a0_3, a0_4, a0_5, a0_6, a0_7, l0_8, a1 => if a1 < 1 then (firkinref17_Small.j0 k a1 true a0_0 a0_1 a0_2 a0_3 a0_4 a0_5 a0_6 a0_7 l0_8) else (if (l0_8.length : Int) > 20 then (firkinref17_Small.j0 k a1 true a0_0 a0_1 a0_2 a0_3 a0_4 a0_5 a0_6 a0_7 l0_8) else (if (a0_1.size : Int) > 100 then (firkinref17_Small.j0 k a1 true a0_0 a0_1 a0_2 a0_3 a0_4 a0_5 a0_6 a0_7 l0_8) else (if (a0_7.size : Int) > 100 then (firkinref17_Small.j0 k a1 true a0_0 a0_1 a0_2 a0_3 a0_4 a0_5 a0_6 a0_7 l0_8) else (firkinref17_Small.j0 k a1 (decide ((a0_5.size : Int) > 100)) a0_0 a0_1 a0_2 a0_3 a0_4 a0_5 a0_6 a0_7 l0_8))))
end
theorem firkinref17_Small.mono_l : ∀ k, (∀ y0 y1 y2 y3 y4 y5 y6 y7 y8 y9, LeO (firkinref17_Small.f k y0 y1 y2 y3 y4 y5 y6 y7 y8 y9) (firkinref17_Small.f (k + 1) y0 y1 y2 y3 y4 y5 y6 y7 y8 y9)) ∧ (∀ y0 y1 y2 y3 y4 y5 y6 y7 y8 y9 y10, LeO (firkinref17_Small.j0 k y0 y1 y2 y3 y4 y5 y6 y7 y8 y9 y10) (firkinref17_Small.j0 (k + 1) y0 y1 y2 y3 y4 y5 y6 y7 y8 y9 y10)) ∧ (∀ y0 y1 y2 y3 y4 y5 y6 y7 y8 y9 y10, LeO (firkinref17_Small.l0 k y0 y1 y2 y3 y4 y5 y6 y7 y8 y9 y10) (firkinref17_Small.l0 (k + 1) y0 y1 y2 y3 y4 y5 y6 y7 y8 y9 y10))
 | 0 => ⟨fun _ _ _ _ _ _ _ _ _ _ r h => by simp [firkinref17_Small.f] at h, fun _ _ _ _ _ _ _ _ _ _ _ r h => by simp [firkinref17_Small.j0] at h, fun _ _ _ _ _ _ _ _ _ _ _ r h => by simp [firkinref17_Small.l0] at h⟩
 | k + 1 => by
  obtain ⟨ih0, ih1, ih2⟩ := firkinref17_Small.mono_l k
  refine ⟨?_, ?_, ?_⟩
  ·intro y0 y1 y2 y3 y4 y5 y6 y7 y8 y9
   unfold firkinref17_Small.f
   repeat' first
   | (with_reducible exact ih0 _ _ _ _ _ _ _ _ _ _)
   | (with_reducible exact ih1 _ _ _ _ _ _ _ _ _ _ _)
   | (with_reducible exact ih2 _ _ _ _ _ _ _ _ _ _ _)
   | (with_reducible exact LeO.refl _)
   | (with_reducible exact LeO.none _)
   | (with_reducible refine LeO.ite ?_ ?_)
   | (with_reducible refine LeO.bind ?_ (fun _ => ?_))
   | exact ih0 _ _ _ _ _ _ _ _ _ _
   | exact ih1 _ _ _ _ _ _ _ _ _ _ _
   | exact ih2 _ _ _ _ _ _ _ _ _ _ _
   | exact LeO.none _
   | refine LeO.ite ?_ ?_
   | refine LeO.bind ?_ (fun _ => ?_)
  ·intro y0 y1 y2 y3 y4 y5 y6 y7 y8 y9 y10
   unfold firkinref17_Small.j0
   repeat' first
   | (with_reducible exact ih0 _ _ _ _ _ _ _ _ _ _)
   | (with_reducible exact ih1 _ _ _ _ _ _ _ _ _ _ _)
   | (with_reducible exact ih2 _ _ _ _ _ _ _ _ _ _ _)
   | (with_reducible exact LeO.refl _)
   | (with_reducible exact LeO.none _)
   | (with_reducible refine LeO.ite ?_ ?_)
   | (with_reducible refine LeO.bind ?_ (fun _ => ?_))
   | exact ih0 _ _ _ _ _ _ _ _ _ _
   | exact ih1 _ _ _ _ _ _ _ _ _ _ _
   | exact ih2 _ _ _ _ _ _ _ _ _ _ _
   | exact LeO.none _
   | refine LeO.ite ?_ ?_
   | refine LeO.bind ?_ (fun _ => ?_)
  ·intro y0 y1 y2 y3 y4 y5 y6 y7 y8 y9 y10
   unfold firkinref17_Small.l0
   repeat' first
   | (with_reducible exact ih0 _ _ _ _ _ _ _ _ _ _)
   | (with_reducible exact ih1 _ _ _ _ _ _ _ _ _ _ _)
   | (with_reducible exact ih2 _ _ _ _ _ _ _ _ _ _ _)
   | (with_reducible exact LeO.refl _)
   | (with_reducible exact LeO.none _)
   | (with_reducible refine LeO.ite ?_ ?_)
   | (with_reducible refine LeO.bind ?_ (fun _ => ?_))
   | exact ih0 _ _ _ _ _ _ _ _ _ _
   | exact ih1 _ _ _ _ _ _ _ _ _ _ _
   | exact ih2 _ _ _ _ _ _ _ _ _ _ _
   | exact LeO.none _
   | refine LeO.ite ?_ ?_
   | refine LeO.bind ?_ (fun _ => ?_)
theorem firkinref17_Small.mono : ∀ a0 a1 a2 a3 a4 a5 a6 a7 a8 a9 k, LeO (firkinref17_Small.f k a0 a1 a2 a3 a4 a5 a6 a7 a8 a9) (firkinref17_Small.f (k + 1) a0 a1 a2 a3 a4 a5 a6 a7 a8 a9) := by
 intro a0 a1 a2 a3 a4 a5 a6 a7 a8 a9 k
 obtain ⟨ih0, ih1, ih2⟩ := firkinref17_Small.mono_l k
 exact ih0 a0 a1 a2 a3 a4 a5 a6 a7 a8 a9
set_option maxHeartbeats 8000000 in
set_option maxRecDepth 100000 in
theorem firkinref17_Small.calls (k : Nat) : ∀ (a0_0 : Int) (a0_1 : ByteArray) (a0_2 : Int) (a0_3 : Bool) (a0_4 : Int) (a0_5 : ByteArray) (a0_6 : Int) (a0_7 : ByteArray) (A0_8 : Option Addr) (c0_8 : Nat) (l0_8 : List (S27)) (a1 : Int) (r : Bool) (w : World) (hr0_8 : Kd.C k27 w A0_8 l0_8.length l0_8) (hc0_8 : l0_8.length ≤ c0_8) (h : firkinref17_Small.f k a0_0 a0_1 a0_2 a0_3 a0_4 a0_5 a0_6 a0_7 l0_8 a1 = some r),
  Calls Try.prog 10 #[.agg #[.int .i64 a0_0, .string a0_1, .int .i64 a0_2, .bool a0_3, .int .i64 a0_4, .string a0_5, .int .i64 a0_6, .string a0_7, .slice A0_8 l0_8.length c0_8], .int .i64 a1] w fun e w' => e = .returned (.bool r) ∧ Below w.heap.size w w' := by
 induction k using Nat.strongRecOn with
 | _ k ih =>
 intro a0_0 a0_1 a0_2 a0_3 a0_4 a0_5 a0_6 a0_7 A0_8 c0_8 l0_8 a1 r w hr0_8 hc0_8 h
 cases k with
 | zero => exact absurd h (by simp [firkinref17_Small.f])
 | succ k =>
 simp only [firkinref17_Small.f] at h
 have hu27 := Try.underlying27
 have HR0_8 := Aside0.mk hr0_8
 have HC0_8 := Aside0.mk hc0_8
 clear hr0_8 hc0_8
 have HB := Aside0.mk (Below.refl w.heap.size w)
 have H : (if a1 < 1 then (firkinref17_Small.j0 k a1 true a0_0 a0_1 a0_2 a0_3 a0_4 a0_5 a0_6 a0_7 l0_8) else (if (l0_8.length : Int) > 20 then (firkinref17_Small.j0 k a1 true a0_0 a0_1 a0_2 a0_3 a0_4 a0_5 a0_6 a0_7 l0_8) else (if (a0_1.size : Int) > 100 then (firkinref17_Small.j0 k a1 true a0_0 a0_1 a0_2 a0_3 a0_4 a0_5 a0_6 a0_7 l0_8) else (if (a0_7.size : Int) > 100 then (firkinref17_Small.j0 k a1 true a0_0 a0_1 a0_2 a0_3 a0_4 a0_5 a0_6 a0_7 l0_8) else (firkinref17_Small.j0 k a1 (decide ((a0_5.size : Int) > 100)) a0_0 a0_1 a0_2 a0_3 a0_4 a0_5 a0_6 a0_7 l0_8))))) = some r := h
 clear h
 have HC3 := Aside0.mk H
 clear H
 go_enter Try.func10, Try.ntmps10
 go_upto_region 1 with (first | ((with_reducible refine gate_dst (N := 2) rfl ?_); (try (refine gate_guard (by rfl) ?_; dsimp only)); refine box_event ?hg (N := 2) ?hd (cs := #[.int .i64 a0_0, .string a0_1, .int .i64 a0_2, .bool a0_3, .int .i64 a0_4, .string a0_5, .int .i64 a0_6, .string a0_7, .slice A0_8 l0_8.length c0_8]) (t := 27) ?hr ?_; (case hd => rfl); (case hg => rfl); (case hr => first | (go_simp; done) | (go_simp; rfl)); intro gb102 hg w4 hbox hb; have n0_ := Aside0.mk (below_step (by repeat (first | (with_reducible first | exact HB.out | apply below_alloc | apply pw_below_drewN | apply below_drew1) | exact HB.out)) hb); have n1_ := Aside0.mk (hbox); have n2_ := Aside0.mk ((by rw [hg]; exact (below_size (by repeat (first | (with_reducible first | exact HB.out | apply below_alloc | apply pw_below_drewN | apply below_drew1) | exact HB.out))) : w.heap.size ≤ gb102)); have n3_ := Aside0.mk ((by rw [hg]; exact (below_size (by repeat (first | (with_reducible first | exact HB.out | apply below_alloc | apply pw_below_drewN | apply below_drew1) | exact HB.out))) : w.heap.size ≤ gb102)); clear HB; have HB := n0_; have BK102 := n1_; have GW102 := n2_; have GE102 := n3_; clear n0_ n1_ n2_ n3_; clear hb hbox hg))
 (try simp only [Act.put, List.setIfInBounds_toArray, List.set_cons_zero, List.set_cons_succ])
 go_cut [32] (fun v32 wc => ∃ (kq : Nat) (x32_2 : Bool), v32 = .bool x32_2 ∧ Aside0 (firkinref17_Small.j0 kq a1 x32_2 a0_0 a0_1 a0_2 a0_3 a0_4 a0_5 a0_6 a0_7 l0_8 = some r) ∧ Aside0 (kq ≤ k) ∧ Aside0 (wc.heap[gb102]? = some (.cells #[.int .i64 a0_0, .string a0_1, .int .i64 a0_2, .bool a0_3, .int .i64 a0_4, .string a0_5, .int .i64 a0_6, .string a0_7, (.slice A0_8 l0_8.length c0_8)] 27 (0, 0))) ∧ Aside0 (Below w.heap.size w wc))
 case first =>
  have H := HC3.out
  clear HC3
  by_cases c5 : a1 < 1
  ·rw [if_pos c5] at H
   have c5b0 : decide (a1 < 1) = true := decide_eq_true c5
   clear c5
   (first | rw [c5b0] | (simp only [i64_w, i32_w]; rw [c5b0]) | skip)
   have H' := Aside0.mk H
   clear H
   go_wp2
   go_meet
   case rel => exact ⟨_, (true), (by first | rfl | (simp; done) | (simp [*]; done)), H', ⟨by first | omega | exact Nat.le_refl _⟩, ⟨by (with_reducible repeat (first | refine blk_drewN ?_ _ | refine blk_drew ?_ | refine blk_alloc ?_ _)); exact BK102.out⟩, ⟨by repeat (first | (with_reducible first | exact HB.out | apply below_alloc | apply pw_below_drewN | apply below_drew1 | refine below_set ?_ GE102.out) | exact HB.out)⟩⟩
  ·rw [if_neg c5] at H
   have c5b0 : decide (a1 < 1) = false := decide_eq_false c5
   clear c5
   (first | rw [c5b0] | (simp only [i64_w, i32_w]; rw [c5b0]) | skip)
   by_cases c6 : (l0_8.length : Int) > 20
   ·rw [if_pos c6] at H
    have c6b0 : decide (20 < (l0_8.length : Int)) = true := decide_eq_true c6
    have c6b1 : decide (20 < l0_8.length) = true := decide_eq_true (by omega)
    clear c6
    have H' := Aside0.mk H
    clear H
    obtain ⟨hcz7_0, hcz7_1, hcz7_2, hcz7_3, hcz7_4, hcz7_5, hcz7_6, hcz7_7, hcz7_8⟩ := cz9_ BK102.out
    obtain ⟨hfz7_0, hfz7_1, hfz7_2, hfz7_3, hfz7_4, hfz7_5, hfz7_6, hfz7_7, hfz7_8⟩ := fz9_ BK102.out
    go_wp2
    go_meet
    case rel => exact ⟨_, (true), (by first | rfl | (simp; done) | (simp [*]; done)), H', ⟨by first | omega | exact Nat.le_refl _⟩, ⟨by (with_reducible repeat (first | refine blk_drewN ?_ _ | refine blk_drew ?_ | refine blk_alloc ?_ _)); exact BK102.out⟩, ⟨by repeat (first | (with_reducible first | exact HB.out | apply below_alloc | apply pw_below_drewN | apply below_drew1 | refine below_set ?_ GE102.out) | exact HB.out)⟩⟩
   ·rw [if_neg c6] at H
    have c6b0 : decide (20 < (l0_8.length : Int)) = false := decide_eq_false c6
    have c6b1 : decide (20 < l0_8.length) = false := decide_eq_false (by omega)
    clear c6
    by_cases c8 : (a0_1.size : Int) > 100
    ·rw [if_pos c8] at H
     have c8b0 : decide (100 < (a0_1.size : Int)) = true := decide_eq_true c8
     have c8b1 : decide (100 < a0_1.size) = true := decide_eq_true (by omega)
     clear c8
     have H' := Aside0.mk H
     clear H
     obtain ⟨hcz9_0, hcz9_1, hcz9_2, hcz9_3, hcz9_4, hcz9_5, hcz9_6, hcz9_7, hcz9_8⟩ := cz9_ BK102.out
     obtain ⟨hfz9_0, hfz9_1, hfz9_2, hfz9_3, hfz9_4, hfz9_5, hfz9_6, hfz9_7, hfz9_8⟩ := fz9_ BK102.out
     go_wp2
     go_meet
     case rel => exact ⟨_, (true), (by first | rfl | (simp; done) | (simp [*]; done)), H', ⟨by first | omega | exact Nat.le_refl _⟩, ⟨by (with_reducible repeat (first | refine blk_drewN ?_ _ | refine blk_drew ?_ | refine blk_alloc ?_ _)); exact BK102.out⟩, ⟨by repeat (first | (with_reducible first | exact HB.out | apply below_alloc | apply pw_below_drewN | apply below_drew1 | refine below_set ?_ GE102.out) | exact HB.out)⟩⟩
    ·rw [if_neg c8] at H
     have c8b0 : decide (100 < (a0_1.size : Int)) = false := decide_eq_false c8
     have c8b1 : decide (100 < a0_1.size) = false := decide_eq_false (by omega)
     clear c8
     by_cases c10 : (a0_7.size : Int) > 100
     ·rw [if_pos c10] at H
      have c10b0 : decide (100 < (a0_7.size : Int)) = true := decide_eq_true c10
      have c10b1 : decide (100 < a0_7.size) = true := decide_eq_true (by omega)
      clear c10
      have H' := Aside0.mk H
      clear H
      obtain ⟨hcz11_0, hcz11_1, hcz11_2, hcz11_3, hcz11_4, hcz11_5, hcz11_6, hcz11_7, hcz11_8⟩ := cz9_ BK102.out
      obtain ⟨hfz11_0, hfz11_1, hfz11_2, hfz11_3, hfz11_4, hfz11_5, hfz11_6, hfz11_7, hfz11_8⟩ := fz9_ BK102.out
      go_wp2
      go_meet
      case rel => exact ⟨_, (true), (by first | rfl | (simp; done) | (simp [*]; done)), H', ⟨by first | omega | exact Nat.le_refl _⟩, ⟨by (with_reducible repeat (first | refine blk_drewN ?_ _ | refine blk_drew ?_ | refine blk_alloc ?_ _)); exact BK102.out⟩, ⟨by repeat (first | (with_reducible first | exact HB.out | apply below_alloc | apply pw_below_drewN | apply below_drew1 | refine below_set ?_ GE102.out) | exact HB.out)⟩⟩
     ·rw [if_neg c10] at H
      have c10b0 : decide (100 < (a0_7.size : Int)) = false := decide_eq_false c10
      have c10b1 : decide (100 < a0_7.size) = false := decide_eq_false (by omega)
      clear c10
      have H' := Aside0.mk H
      clear H
      obtain ⟨hcz12_0, hcz12_1, hcz12_2, hcz12_3, hcz12_4, hcz12_5, hcz12_6, hcz12_7, hcz12_8⟩ := cz9_ BK102.out
      obtain ⟨hfz12_0, hfz12_1, hfz12_2, hfz12_3, hfz12_4, hfz12_5, hfz12_6, hfz12_7, hfz12_8⟩ := fz9_ BK102.out
      go_wp2
      go_meet
      case rel => exact ⟨_, (decide ((a0_5.size : Int) > 100)), (by first | rfl | (simp; done) | (simp [*]; done)), H', ⟨by first | omega | exact Nat.le_refl _⟩, ⟨by (with_reducible repeat (first | refine blk_drewN ?_ _ | refine blk_drew ?_ | refine blk_alloc ?_ _)); exact BK102.out⟩, ⟨by repeat (first | (with_reducible first | exact HB.out | apply below_alloc | apply pw_below_drewN | apply below_drew1 | refine below_set ?_ GE102.out) | exact HB.out)⟩⟩
 case rest =>
  clear HC3
  try clear c1
  try clear p2
  try clear c5
  try clear c5b0
  try clear c6
  try clear c6b0
  try clear c6b1
  try clear c8
  try clear c8b0
  try clear c8b1
  try clear c10
  try clear c10b0
  try clear c10b1
  try clear hcz11_0 hcz11_1 hcz11_2 hcz11_3 hcz11_4 hcz11_5 hcz11_6 hcz11_7 hcz11_8
  try clear hcz12_0 hcz12_1 hcz12_2 hcz12_3 hcz12_4 hcz12_5 hcz12_6 hcz12_7 hcz12_8
  try clear hcz7_0 hcz7_1 hcz7_2 hcz7_3 hcz7_4 hcz7_5 hcz7_6 hcz7_7 hcz7_8
  try clear hcz9_0 hcz9_1 hcz9_2 hcz9_3 hcz9_4 hcz9_5 hcz9_6 hcz9_7 hcz9_8
  try clear hfz11_0 hfz11_1 hfz11_2 hfz11_3 hfz11_4 hfz11_5 hfz11_6 hfz11_7 hfz11_8
  try clear hfz12_0 hfz12_1 hfz12_2 hfz12_3 hfz12_4 hfz12_5 hfz12_6 hfz12_7 hfz12_8
  try clear hfz7_0 hfz7_1 hfz7_2 hfz7_3 hfz7_4 hfz7_5 hfz7_6 hfz7_7 hfz7_8
  try clear hfz9_0 hfz9_1 hfz9_2 hfz9_3 hfz9_4 hfz9_5 hfz9_6 hfz9_7 hfz9_8
  obtain ⟨kq, x32_2, rfl, HA, HJ2, BK102, HB⟩ := hcut
  cases kq with
  | zero => exact absurd HA.out (by simp [firkinref17_Small.j0])
  | succ kj2 =>
   have H := HA.out
   clear HA
   simp only [firkinref17_Small.j0] at H
   by_cases c13 : x32_2 = true
   ·subst c13
    have H1 : (some false) = some r := by rw [if_pos rfl] at H; exact H
    clear H
    have H := H1
    clear H1
    obtain rfl := Option.some.inj H
    go_wp2
    go_ret
    exact ⟨by first | rfl | (simp [errW_none, errW_some] <;> rfl) | (simp [*, errW_none, errW_some] <;> rfl), by repeat (first | (with_reducible first | exact HB.out | apply below_alloc | apply pw_below_drewN | apply below_drew1 | refine below_set ?_ GE102.out) | exact HB.out)⟩
   ·replace c13 := Bool.eq_false_iff.mpr c13
    subst c13
    have H1 : (firkinref17_Small.l0 kj2 a1 0 a0_0 a0_1 a0_2 a0_3 a0_4 a0_5 a0_6 a0_7 l0_8) = some r := by rw [if_neg (show ¬ (false = true) by decide)] at H; exact H
    clear H
    have H := H1
    clear H1
    have H' := Aside0.mk H
    clear H
    go_wp2
    go_loopg [5] kj2 (fun kq v5 w' => ∃ (x5_2 : Int), v5 = .int .i64 x5_2 ∧ Aside0 (firkinref17_Small.l0 kq a1 x5_2 a0_0 a0_1 a0_2 a0_3 a0_4 a0_5 a0_6 a0_7 l0_8 = some r) ∧ Aside0 (kq ≤ kj2) ∧ Aside0 (w'.heap[gb102]? = some (.cells #[.int .i64 a0_0, .string a0_1, .int .i64 a0_2, .bool a0_3, .int .i64 a0_4, .string a0_5, .int .i64 a0_6, .string a0_7, (.slice A0_8 l0_8.length c0_8)] 27 (0, 0))) ∧ Aside0 (Below w.heap.size w w'))
    case atStart => exact ⟨(0), (by first | rfl | (simp; done) | (simp [*]; done)), H', ⟨Nat.le_refl _⟩, ⟨by (with_reducible repeat (first | refine blk_drewN ?_ _ | refine blk_drew ?_ | refine blk_alloc ?_ _)); exact BK102.out⟩, ⟨by repeat (first | (with_reducible first | exact HB.out | apply below_alloc | apply pw_below_drewN | apply below_drew1 | refine below_set ?_ GE102.out) | exact HB.out)⟩⟩
    case round =>
     clear H'
     try clear c1
     try clear p2
     try clear c5
     try clear c5b0
     try clear c6
     try clear c6b0
     try clear c6b1
     try clear c8
     try clear c8b0
     try clear c8b1
     try clear c10
     try clear c10b0
     try clear c10b1
     try clear c13
     try clear hcz11_0 hcz11_1 hcz11_2 hcz11_3 hcz11_4 hcz11_5 hcz11_6 hcz11_7 hcz11_8
     try clear hcz12_0 hcz12_1 hcz12_2 hcz12_3 hcz12_4 hcz12_5 hcz12_6 hcz12_7 hcz12_8
     try clear hcz7_0 hcz7_1 hcz7_2 hcz7_3 hcz7_4 hcz7_5 hcz7_6 hcz7_7 hcz7_8
     try clear hcz9_0 hcz9_1 hcz9_2 hcz9_3 hcz9_4 hcz9_5 hcz9_6 hcz9_7 hcz9_8
     try clear hfz11_0 hfz11_1 hfz11_2 hfz11_3 hfz11_4 hfz11_5 hfz11_6 hfz11_7 hfz11_8
     try clear hfz12_0 hfz12_1 hfz12_2 hfz12_3 hfz12_4 hfz12_5 hfz12_6 hfz12_7 hfz12_8
     try clear hfz7_0 hfz7_1 hfz7_2 hfz7_3 hfz7_4 hfz7_5 hfz7_6 hfz7_7 hfz7_8
     try clear hfz9_0 hfz9_1 hfz9_2 hfz9_3 hfz9_4 hfz9_5 hfz9_6 hfz9_7 hfz9_8
     try clear p2
     obtain ⟨x5_2, rfl, HA, HK2, BK102, HB⟩ := hrel
     cases gk with
     | zero => exact absurd HA.out (by simp [firkinref17_Small.l0])
     | succ k2 =>
      have H := HA.out
      clear HA
      simp only [firkinref17_Small.l0] at H
      by_cases c14 : x5_2 < (l0_8.length : Int)
      ·rw [if_pos c14] at H
       have c14b0 : decide (x5_2 < (l0_8.length : Int)) = true := decide_eq_true c14
       clear c14
       by_cases c15 : 0 ≤ x5_2
       ·rw [if_pos c15] at H
        have c15b0 : decide (0 ≤ x5_2) = true := decide_eq_true c15
        clear c15
        replace H := Option.bind_eq_some_iff.mp H
        obtain ⟨t104, A160, H⟩ := H
        replace H : (if t104 = true then (firkinref17_Small.l0 k2 a1 (wrap64 (x5_2 + 1)) a0_0 a0_1 a0_2 a0_3 a0_4 a0_5 a0_6 a0_7 l0_8) else (some false)) = some r := H
        have A16 := Aside0.mk A160
        clear A160
        by_cases c17 : t104 = true
        ·subst c17
         have H1 : (firkinref17_Small.l0 k2 a1 (wrap64 (x5_2 + 1)) a0_0 a0_1 a0_2 a0_3 a0_4 a0_5 a0_6 a0_7 l0_8) = some r := by rw [if_pos rfl] at H; exact H
         clear H
         have H := H1
         clear H1
         have H' := Aside0.mk H
         clear H
         obtain ⟨hcz18_0, hcz18_1, hcz18_2, hcz18_3, hcz18_4, hcz18_5, hcz18_6, hcz18_7, hcz18_8⟩ := cz9_ BK102.out
         obtain ⟨hfz18_0, hfz18_1, hfz18_2, hfz18_3, hfz18_4, hfz18_5, hfz18_6, hfz18_7, hfz18_8⟩ := fz9_ BK102.out
         have p103 : 0 ≤ (x5_2 : Int) := of_decide_eq_true (by first | (with_reducible assumption) | assumption)
         have q103 : x5_2 < (l0_8.length : Int) := of_decide_eq_true (by first | (with_reducible assumption) | assumption)
         obtain ⟨ad103, A103_8, c103_8, e103, hx103_0, hx103_1, hx103_2, hx103_3, hx103_4, hx103_5, hx103_6, hx103_7, hx103_8, hl103_8, hi103_8⟩ := at_T27 HR0_8.out x5_2 p103 q103
         cases e103
         replace hx103_0 := (HB.out.cell (World.block_lt_of_cell? w _ hx103_0)).trans hx103_0
         replace hx103_1 := (HB.out.cell (World.block_lt_of_cell? w _ hx103_1)).trans hx103_1
         replace hx103_2 := (HB.out.cell (World.block_lt_of_cell? w _ hx103_2)).trans hx103_2
         replace hx103_3 := (HB.out.cell (World.block_lt_of_cell? w _ hx103_3)).trans hx103_3
         replace hx103_4 := (HB.out.cell (World.block_lt_of_cell? w _ hx103_4)).trans hx103_4
         replace hx103_5 := (HB.out.cell (World.block_lt_of_cell? w _ hx103_5)).trans hx103_5
         replace hx103_6 := (HB.out.cell (World.block_lt_of_cell? w _ hx103_6)).trans hx103_6
         replace hx103_7 := (HB.out.cell (World.block_lt_of_cell? w _ hx103_7)).trans hx103_7
         replace hx103_8 := (HB.out.cell (World.block_lt_of_cell? w _ hx103_8)).trans hx103_8
         have HR103_8 := Aside0.mk hi103_8
         have HC103_8 := Aside0.mk hl103_8
         clear hi103_8 hl103_8
         replace p103 := eq_true p103
         replace q103 := eq_true q103
         go_wp2_with (first | ((with_reducible refine gate_callee (f := 10) rfl ?_); refine goesL_ (some 47) rfl rfl Try.func10 (by kernel_rfl) rfl #[.agg #[.int .i64 ((rd_T27 l0_8 x5_2).f0), .string ((rd_T27 l0_8 x5_2).f1), .int .i64 ((rd_T27 l0_8 x5_2).f2), .bool ((rd_T27 l0_8 x5_2).f3.f0), .int .i64 ((rd_T27 l0_8 x5_2).f3.f1), .string ((rd_T27 l0_8 x5_2).f3.f2), .int .i64 ((rd_T27 l0_8 x5_2).f4), .string ((rd_T27 l0_8 x5_2).f5), .slice A103_8 ((rd_T27 l0_8 x5_2).f6).length c103_8], .int .i64 (wrap64 (a1 - 1))] rfl (by (try simp only [List.map_toArray, List.map_cons, List.map_nil]); first | done | rfl | (simp only [List.length_drop, List.length_take]; rfl)) ?_; (with_reducible refine (ih k2 (by have := HJ2.out; have := HK2.out; omega) ((rd_T27 l0_8 x5_2).f0) ((rd_T27 l0_8 x5_2).f1) ((rd_T27 l0_8 x5_2).f2) ((rd_T27 l0_8 x5_2).f3.f0) ((rd_T27 l0_8 x5_2).f3.f1) ((rd_T27 l0_8 x5_2).f3.f2) ((rd_T27 l0_8 x5_2).f4) ((rd_T27 l0_8 x5_2).f5) _ _ ((rd_T27 l0_8 x5_2).f6) (wrap64 (a1 - 1)) true _ ?side1 ?side2 A16.out).mono ?_); (case side1 => repeat (first | exact (Kd.C_below HR103_8.out HB.out) | (with_reducible refine Kd.C_alloc ?_ _) | (with_reducible refine Kd.C_drewN ?_ _) | (with_reducible refine Kd.C_drew ?_))); (case side2 => exact HC103_8.out); rintro e w19 ⟨rfl, hb⟩; refine ⟨_, rfl, ?_⟩; have n0_ := Aside0.mk (blk_below (g := gb102) (o := .cells #[.int .i64 a0_0, .string a0_1, .int .i64 a0_2, .bool a0_3, .int .i64 a0_4, .string a0_5, .int .i64 a0_6, .string a0_7, .slice (some ad103) l0_8.length c0_8] 27 (0, 0)) (by (with_reducible repeat (first | refine blk_drewN ?_ _ | refine blk_drew ?_ | refine blk_alloc ?_ _)); exact BK102.out) hb); have n1_ := Aside0.mk (below_step (by repeat (first | (with_reducible first | exact HB.out | apply below_alloc | apply pw_below_drewN | apply below_drew1 | refine below_set ?_ GE102.out) | exact HB.out)) hb); clear BK102; clear HB; have BK102 := n0_; have HB := n1_; clear n0_ n1_; (try clear hb); (try clear hb2); (try clear hk); (try clear hi)))
         go_roundg k2
         case measure => have := HJ2.out; have := HK2.out; omega
         case rel => exact ⟨(wrap64 (x5_2 + 1)), (by first | rfl | (simp; done) | (simp [*]; done)), H', ⟨by have := HJ2.out; have := HK2.out; omega⟩, ⟨by (with_reducible repeat (first | refine blk_drewN ?_ _ | refine blk_drew ?_ | refine blk_alloc ?_ _)); exact BK102.out⟩, ⟨by repeat (first | (with_reducible first | exact HB.out | apply below_alloc | apply pw_below_drewN | apply below_drew1 | refine below_set ?_ GE102.out) | exact HB.out)⟩⟩
        ·replace c17 := Bool.eq_false_iff.mpr c17
         subst c17
         have H1 : (some false) = some r := by rw [if_neg (show ¬ (false = true) by decide)] at H; exact H
         clear H
         have H := H1
         clear H1
         obtain rfl := Option.some.inj H
         obtain ⟨hcz20_0, hcz20_1, hcz20_2, hcz20_3, hcz20_4, hcz20_5, hcz20_6, hcz20_7, hcz20_8⟩ := cz9_ BK102.out
         obtain ⟨hfz20_0, hfz20_1, hfz20_2, hfz20_3, hfz20_4, hfz20_5, hfz20_6, hfz20_7, hfz20_8⟩ := fz9_ BK102.out
         have p103 : 0 ≤ (x5_2 : Int) := of_decide_eq_true (by first | (with_reducible assumption) | assumption)
         have q103 : x5_2 < (l0_8.length : Int) := of_decide_eq_true (by first | (with_reducible assumption) | assumption)
         obtain ⟨ad103, A103_8, c103_8, e103, hx103_0, hx103_1, hx103_2, hx103_3, hx103_4, hx103_5, hx103_6, hx103_7, hx103_8, hl103_8, hi103_8⟩ := at_T27 HR0_8.out x5_2 p103 q103
         cases e103
         replace hx103_0 := (HB.out.cell (World.block_lt_of_cell? w _ hx103_0)).trans hx103_0
         replace hx103_1 := (HB.out.cell (World.block_lt_of_cell? w _ hx103_1)).trans hx103_1
         replace hx103_2 := (HB.out.cell (World.block_lt_of_cell? w _ hx103_2)).trans hx103_2
         replace hx103_3 := (HB.out.cell (World.block_lt_of_cell? w _ hx103_3)).trans hx103_3
         replace hx103_4 := (HB.out.cell (World.block_lt_of_cell? w _ hx103_4)).trans hx103_4
         replace hx103_5 := (HB.out.cell (World.block_lt_of_cell? w _ hx103_5)).trans hx103_5
         replace hx103_6 := (HB.out.cell (World.block_lt_of_cell? w _ hx103_6)).trans hx103_6
         replace hx103_7 := (HB.out.cell (World.block_lt_of_cell? w _ hx103_7)).trans hx103_7
         replace hx103_8 := (HB.out.cell (World.block_lt_of_cell? w _ hx103_8)).trans hx103_8
         have HR103_8 := Aside0.mk hi103_8
         have HC103_8 := Aside0.mk hl103_8
         clear hi103_8 hl103_8
         replace p103 := eq_true p103
         replace q103 := eq_true q103
         go_wp2_with (first | ((with_reducible refine gate_callee (f := 10) rfl ?_); refine goesL_ (some 47) rfl rfl Try.func10 (by kernel_rfl) rfl #[.agg #[.int .i64 ((rd_T27 l0_8 x5_2).f0), .string ((rd_T27 l0_8 x5_2).f1), .int .i64 ((rd_T27 l0_8 x5_2).f2), .bool ((rd_T27 l0_8 x5_2).f3.f0), .int .i64 ((rd_T27 l0_8 x5_2).f3.f1), .string ((rd_T27 l0_8 x5_2).f3.f2), .int .i64 ((rd_T27 l0_8 x5_2).f4), .string ((rd_T27 l0_8 x5_2).f5), .slice A103_8 ((rd_T27 l0_8 x5_2).f6).length c103_8], .int .i64 (wrap64 (a1 - 1))] rfl (by (try simp only [List.map_toArray, List.map_cons, List.map_nil]); first | done | rfl | (simp only [List.length_drop, List.length_take]; rfl)) ?_; (with_reducible refine (ih k2 (by have := HJ2.out; have := HK2.out; omega) ((rd_T27 l0_8 x5_2).f0) ((rd_T27 l0_8 x5_2).f1) ((rd_T27 l0_8 x5_2).f2) ((rd_T27 l0_8 x5_2).f3.f0) ((rd_T27 l0_8 x5_2).f3.f1) ((rd_T27 l0_8 x5_2).f3.f2) ((rd_T27 l0_8 x5_2).f4) ((rd_T27 l0_8 x5_2).f5) _ _ ((rd_T27 l0_8 x5_2).f6) (wrap64 (a1 - 1)) false _ ?side1 ?side2 A16.out).mono ?_); (case side1 => repeat (first | exact (Kd.C_below HR103_8.out HB.out) | (with_reducible refine Kd.C_alloc ?_ _) | (with_reducible refine Kd.C_drewN ?_ _) | (with_reducible refine Kd.C_drew ?_))); (case side2 => exact HC103_8.out); rintro e w21 ⟨rfl, hb⟩; refine ⟨_, rfl, ?_⟩; have n0_ := Aside0.mk (blk_below (g := gb102) (o := .cells #[.int .i64 a0_0, .string a0_1, .int .i64 a0_2, .bool a0_3, .int .i64 a0_4, .string a0_5, .int .i64 a0_6, .string a0_7, .slice (some ad103) l0_8.length c0_8] 27 (0, 0)) (by (with_reducible repeat (first | refine blk_drewN ?_ _ | refine blk_drew ?_ | refine blk_alloc ?_ _)); exact BK102.out) hb); have n1_ := Aside0.mk (below_step (by repeat (first | (with_reducible first | exact HB.out | apply below_alloc | apply pw_below_drewN | apply below_drew1 | refine below_set ?_ GE102.out) | exact HB.out)) hb); clear BK102; clear HB; have BK102 := n0_; have HB := n1_; clear n0_ n1_; (try clear hb); (try clear hb2); (try clear hk); (try clear hi)))
         go_ret
         exact ⟨by first | rfl | (simp [errW_none, errW_some] <;> rfl) | (simp [*, errW_none, errW_some] <;> rfl), by repeat (first | (with_reducible first | exact HB.out | apply below_alloc | apply pw_below_drewN | apply below_drew1 | refine below_set ?_ GE102.out) | exact HB.out)⟩
       ·rw [if_neg c15] at H
        exact absurd H (by simp)
      ·rw [if_neg c14] at H
       have c14b0 : decide (x5_2 < (l0_8.length : Int)) = false := decide_eq_false c14
       clear c14
       obtain rfl := Option.some.inj H
       obtain ⟨hcz22_0, hcz22_1, hcz22_2, hcz22_3, hcz22_4, hcz22_5, hcz22_6, hcz22_7, hcz22_8⟩ := cz9_ BK102.out
       obtain ⟨hfz22_0, hfz22_1, hfz22_2, hfz22_3, hfz22_4, hfz22_5, hfz22_6, hfz22_7, hfz22_8⟩ := fz9_ BK102.out
       go_wp2
       go_ret
       exact ⟨by first | rfl | (simp [errW_none, errW_some] <;> rfl) | (simp [*, errW_none, errW_some] <;> rfl), by repeat (first | (with_reducible first | exact HB.out | apply below_alloc | apply pw_below_drewN | apply below_drew1 | refine below_set ?_ GE102.out) | exact HB.out)⟩
end Go.Proofs.Ytdedmhmomoejkaa.X
namespace Go.Proofs.Ytdedmhmomoejkaa.X
open Go.RowKit Go.Proofs.YtdedmhmomoejkaaW.PrintWords Go.Proofs.YtdedmhmomoejkaaW.PrintLast
set_option linter.unusedVariables false
set_option linter.unusedSimpArgs false
set_option maxRecDepth 100000 in
theorem live21 : firkinlaw21_live.f 60 = some true := by decide +kernel
theorem small12_tot (l : List S64) (hl : l.length ≤ 9223372036854775807) : Tot (fun k => firkinlaw12_Small.f k l) := by
  unfold firkinlaw12_Small.f
  have key : ∀ (n i : Nat), i + n = l.length → Tot (fun k => firkinlaw12_Small.l0 k l (i : Int)) := by
    intro n
    induction n with
    | zero =>
      intro i hi
      refine Tot.succ (fun k => by simp only [firkinlaw12_Small.l0]; rfl) ?_
      refine Tot.ite (fun h => absurd h (by omega)) (fun _ => ?_)
      refine Tot.succ (fun k => by simp only [firkinlaw12_Small.j1]; rfl) ?_
      refine Tot.ite (fun h => absurd h (by decide)) (fun _ => Tot.some_ _)
    | succ n ih =>
      intro i hi
      refine Tot.succ (fun k => by simp only [firkinlaw12_Small.l0]; rfl) ?_
      refine Tot.ite (fun _ => ?_) (fun h => absurd (by omega) h)
      refine Tot.succ (fun k => by simp only [firkinlaw12_Small.j1]; rfl) ?_
      refine Tot.ite (fun _ => ?_) (fun _ => Tot.some_ _)
      refine Tot.ite (fun _ => ?_) (fun h => absurd (by omega) h)
      refine Tot.ite (fun _ => ?_) (fun h => absurd (by omega) h)
      refine Tot.ite (fun _ => Tot.some_ _) (fun _ => ?_)
      rw [wrap_in (by omega) (by omega), show (i : Int) + 1 = ((i + 1 : Nat) : Int) by omega]
      exact ih (i + 1) (by omega)
  simpa using key l.length 0 (by omega)
end Go.Proofs.Ytdedmhmomoejkaa.X
namespace Go.Proofs.Ytdedmhmomoejkaa.X
open Go.RowKit Go.Proofs.YtdedmhmomoejkaaW.PrintWords Go.Proofs.YtdedmhmomoejkaaW.PrintLast
set_option linter.unusedVariables false
set_option linter.unusedSimpArgs false
def TotP {α : Type} (P : α → Prop) (g : Nat → Option α) : Prop := ∃ r, Ev g r ∧ P r
theorem TotP.some_ {α : Type} {P : α → Prop} {r : α} (h : P r) : TotP P (fun _ => some r) := ⟨r, Ev.now r, h⟩
theorem TotP.ite {α : Type} {P : α → Prop} {c : Prop} [Decidable c] {f g : Nat → Option α} (h : c → TotP P f) (h' : ¬ c → TotP P g) : TotP P (fun k => if c then f k else g k) := by
  by_cases hc : c
  · simp only [if_pos hc]; exact h hc
  · simp only [if_neg hc]; exact h' hc
theorem TotP.bind {α β : Type} {P : α → Prop} {Q : β → Prop} {g : Nat → Option α} {f : Nat → α → Option β} (h : TotP P g) (k : ∀ x, P x → TotP Q (fun n => f n x)) : TotP Q (fun n => (g n).bind (f n)) := by
  obtain ⟨x, hx, hp⟩ := h
  obtain ⟨r, hr, hq⟩ := k x hp
  exact ⟨r, Ev.bind hx hr, hq⟩
theorem TotP.succ {α : Type} {P : α → Prop} {g f : Nat → Option α} (h : ∀ k, g (k + 1) = f k) (k : TotP P f) : TotP P g := by
  obtain ⟨r, hr, hp⟩ := k
  exact ⟨r, Ev.step h hr, hp⟩
theorem small17 : ∀ (m : Nat) (x : S27), m ≤ 1000 → TotP (fun r => r = true → Lens m x) (fun k => firkinref17_Small.f k x.f0 x.f1 x.f2 x.f3.f0 x.f3.f1 x.f3.f2 x.f4 x.f5 x.f6 (m : Int)) := by
  intro m
  induction m with
  | zero =>
    intro x _
    refine TotP.succ (fun k => by simp only [firkinref17_Small.f]; rfl) ?_
    refine TotP.ite (fun _ => ?_) (fun h => absurd (by omega) h)
    refine TotP.succ (fun k => by simp only [firkinref17_Small.j0]; rfl) ?_
    exact TotP.ite (fun _ => TotP.some_ (by simp)) (fun h => absurd trivial h)
  | succ m ih =>
    intro x hm
    have hj : ∀ b, (b = false → x.f6.length ≤ 20) → TotP (fun r => r = true → Lens (m + 1) x) (fun k => firkinref17_Small.j0 k ((m + 1 : Nat) : Int) b x.f0 x.f1 x.f2 x.f3.f0 x.f3.f1 x.f3.f2 x.f4 x.f5 x.f6) := by
      intro b hb
      refine TotP.succ (fun k => by simp only [firkinref17_Small.j0]; rfl) ?_
      refine TotP.ite (fun _ => TotP.some_ (by simp)) (fun hb' => ?_)
      have hlen := hb (by simpa using hb')
      have key : ∀ (n i : Nat), i + n = x.f6.length → (∀ j, j < i → ∀ y, x.f6[j]? = some y → Lens m y) → TotP (fun r => r = true → Lens (m + 1) x) (fun k => firkinref17_Small.l0 k ((m + 1 : Nat) : Int) (i : Int) x.f0 x.f1 x.f2 x.f3.f0 x.f3.f1 x.f3.f2 x.f4 x.f5 x.f6) := by
        intro n
        induction n with
        | zero =>
          intro i hi hall
          refine TotP.succ (fun k => by simp only [firkinref17_Small.l0]; rfl) ?_
          refine TotP.ite (fun h => absurd h (by omega)) (fun _ => TotP.some_ (fun _ => ⟨by omega, fun y hy => ?_⟩))
          obtain ⟨j, hj⟩ := List.mem_iff_getElem?.1 hy
          exact hall j (by have := (List.getElem?_eq_some_iff.1 hj).1; omega) y hj
        | succ n ih2 =>
          intro i hi hall
          refine TotP.succ (fun k => by simp only [firkinref17_Small.l0]; rfl) ?_
          refine TotP.ite (fun _ => ?_) (fun h => absurd (by omega) h)
          refine TotP.ite (fun _ => ?_) (fun h => absurd (by omega) h)
          have hw : wrap64 (((m + 1 : Nat) : Int) - 1) = (m : Int) := by rw [wrap_in (by omega) (by omega)]; omega
          rw [hw]
          refine TotP.bind (ih (rd_T27 x.f6 (i : Int)) (by omega)) (fun t ht => ?_)
          refine TotP.ite (fun hT => ?_) (fun _ => TotP.some_ (by simp))
          rw [wrap_in (by omega) (by omega), show (i : Int) + 1 = ((i + 1 : Nat) : Int) by omega]
          refine ih2 (i + 1) (by omega) (fun j hj y hy => ?_)
          by_cases e : j = i
          · subst e
            have hr : rd_T27 x.f6 (j : Int) = y := by simp [rd_T27, List.getD_eq_getElem?_getD, hy]
            rw [hr] at ht
            exact ht hT
          · exact hall j (by omega) y hy
      have := key x.f6.length 0 (by omega) (fun j hj => absurd hj (Nat.not_lt_zero _))
      simpa using this
    refine TotP.succ (fun k => by simp only [firkinref17_Small.f]; rfl) ?_
    refine TotP.ite (fun h => absurd h (by omega)) (fun _ => ?_)
    refine TotP.ite (fun _ => hj true (by simp)) (fun h20 => ?_)
    refine TotP.ite (fun _ => hj true (by simp)) (fun _ => ?_)
    refine TotP.ite (fun _ => hj true (by simp)) (fun _ => ?_)
    exact hj _ (fun _ => by omega)
theorem Lens.le : ∀ (d e : Nat) (x : S27), d ≤ e → Lens e x → Lens d x
  | 0, _, _, _, _ => trivial
  | d + 1, 0, _, h, _ => by omega
  | d + 1, e + 1, x, h, hl => ⟨hl.1, fun y hy => Lens.le d e y (by omega) (hl.2 y hy)⟩
end Go.Proofs.Ytdedmhmomoejkaa.X
namespace Go.Proofs.Ytdedmhmomoejkaa.X
open Go.RowKit Go.Proofs.YtdedmhmomoejkaaW.PrintWords Go.Proofs.YtdedmhmomoejkaaW.PrintLast Go.Proofs.YtdedmhmomoejkaaW.PrintMore
attribute [local go_sem] max2_int max_two
set_option linter.unusedVariables false
set_option linter.unusedSimpArgs false
theorem live21_at (w : World) : Calls Try.prog 11 #[] w fun e w' => e = .returned (.bool true) ∧ Below w.heap.size w w' := firkinlaw21_live.calls 60 true w live21
theorem one27 {W : World} {x : S27} {A8 : Option Addr} {c8 g : Nat} {T : TypeId} (hr : Kd.C k27 W A8 x.f6.length x.f6) (hc : x.f6.length ≤ c8)
    (hg : W.heap[g]? = some (.cells #[.int .i64 x.f0, .string x.f1, .int .i64 x.f2, .bool x.f3.f0, .int .i64 x.f3.f1, .string x.f3.f2, .int .i64 x.f4, .string x.f5, .slice A8 x.f6.length c8] T (0, 0))) :
    Kd.C k27 W (some ⟨g, 0, none⟩) [x].length [x] := by
  refine ⟨rfl, by simp, fun _ => ⟨_, rfl, fun j p hp => ?_⟩⟩
  cases j with
  | zero =>
    have e : x = p := by simpa using hp
    subst e
    refine ⟨_, ?_, k27_mk W x hc hr, fun i u hu => ?_⟩
    · rfl
    · rw [show (Addr.add ⟨g, 0, none⟩ (0 * k27.sz + i)) = ⟨g, i, none⟩ by simp only [Addr.add, Nat.zero_mul, Nat.zero_add]; split <;> simp_all, cell_of_row W g i _ T (0, 0) hg]
      simpa [eq_comm] using hu
  | succ j => simp at hp
def NotPost (w : World) : Ending → World → Prop := fun e w' => e = .returned (.bool true) ∧ Below w.heap.size w w'
set_option maxHeartbeats 8000000 in
set_option maxRecDepth 100000 in
theorem pruneNot.calls (A0 : Option Addr) (c0 : Nat) (l0 : List S64) (x : S27) (A8 : Option Addr) (c8 : Nat) (A2 : Option Addr) (c2 : Nat) (l2 : List S33) (w : World)
    (hr0 : Kd.C k64 w A0 l0.length l0) (hc0 : l0.length ≤ c0) (hr8 : Kd.C k27 w A8 x.f6.length x.f6) (hc8 : x.f6.length ≤ c8) (hr2 : Kd.C k33 w A2 l2.length l2) (hc2 : l2.length ≤ c2) :
    Calls Try.prog 5 #[.slice A0 l0.length c0, .agg #[.int .i64 x.f0, .string x.f1, .int .i64 x.f2, .bool x.f3.f0, .int .i64 x.f3.f1, .string x.f3.f2, .int .i64 x.f4, .string x.f5, .slice A8 x.f6.length c8], .slice A2 l2.length c2] w (NotPost w) := by
  have hu27 := Try.underlying27
  have hu35 := Try.underlying35
  have hu33 := Try.underlying33
  have hu24 := Try.underlying24
  obtain ⟨r12, k12, h12⟩ := small12_tot l0 (Kd.C_max hr0)
  obtain ⟨r17, ⟨k17, h17⟩, hlens⟩ := small17 9 x (by omega)
  have HR0 := Aside0.mk hr0
  have HC0 := Aside0.mk hc0
  have HR8 := Aside0.mk hr8
  have HC8 := Aside0.mk hc8
  have HR2 := Aside0.mk hr2
  have HC2 := Aside0.mk hc2
  clear hr0 hc0 hr8 hc8 hr2 hc2
  have e12 := Aside0.mk h12
  have e17 := Aside0.mk h17
  clear h12 h17
  have HL := Aside0.mk hlens
  clear hlens
  have HB := Aside0.mk (below_alloc (Below.refl w.heap.size w) (.cells #[.int .i64 x.f0, .string x.f1, .int .i64 x.f2, .bool x.f3.f0, .int .i64 x.f3.f1, .string x.f3.f2, .int .i64 x.f4, .string x.f5, .slice A8 x.f6.length c8] 27))
  have BK := Aside0.mk (heap_alloc_new w (.cells #[.int .i64 x.f0, .string x.f1, .int .i64 x.f2, .bool x.f3.f0, .int .i64 x.f3.f1, .string x.f3.f2, .int .i64 x.f4, .string x.f5, .slice A8 x.f6.length c8] 27))
  have S12 : Aside0 (∀ W, Below w.heap.size w W → Calls Try.prog 9 #[.slice A0 l0.length c0] W fun e w' => e = .returned (.bool r12) ∧ Below W.heap.size W w') :=
    ⟨fun W hW => (firkinlaw12_Small.calls k12 A0 c0 l0 r12 W (Kd.C_below HR0.out hW) HC0.out (e12.out k12 (Nat.le_refl _))).mono (fun e w1 h => ⟨h.1, h.2.below⟩)⟩
  have S17 : Aside0 (∀ W, Below w.heap.size w W → Calls Try.prog 10 #[.agg #[.int .i64 x.f0, .string x.f1, .int .i64 x.f2, .bool x.f3.f0, .int .i64 x.f3.f1, .string x.f3.f2, .int .i64 x.f4, .string x.f5, .slice A8 x.f6.length c8], .int .i64 9] W fun e w' => e = .returned (.bool r17) ∧ Below W.heap.size W w') :=
    ⟨fun W hW => firkinref17_Small.calls k17 x.f0 x.f1 x.f2 x.f3.f0 x.f3.f1 x.f3.f2 x.f4 x.f5 A8 c8 x.f6 9 r17 W (Kd.C_below HR8.out hW) HC8.out (e17.out k17 (Nat.le_refl _))⟩
  clear e12 e17
  obtain ⟨Q, hQ⟩ : ∃ Q, Q = NotPost w := ⟨_, rfl⟩
  rw [← hQ]
  have HQ := Aside0.mk hQ
  clear hQ
  cases r12 with
  | false =>
    go_enter Try.func5, Try.ntmps5
    go_wp2_with fail
    refine (S12.out _ HB.out).mono ?_
    rintro e w1 ⟨rfl, hb⟩
    have HB1 := Aside0.mk (below_step HB.out hb)
    clear hb HB
    go_wp2_with fail
    refine (live21_at w1).mono ?_
    rintro e w2 ⟨rfl, hb⟩
    have HB2 := Aside0.mk (below_step HB1.out hb)
    clear hb
    go_wp2
    rw [HQ.out]
    exact ⟨rfl, HB2.out⟩
  | true =>
    cases r17 with
    | false =>
      go_enter Try.func5, Try.ntmps5
      go_wp2_with fail
      refine (S12.out _ HB.out).mono ?_
      rintro e w1 ⟨rfl, hb⟩
      have BK1 := Aside0.mk (blk_below BK.out hb)
      have HB1 := Aside0.mk (below_step HB.out hb)
      clear hb HB BK
      obtain ⟨hz0, hz1, hz2, hz3, hz4, hz5, hz6, hz7, hz8⟩ := cz9_ BK1.out
      go_wp2_with fail
      refine (S17.out _ HB1.out).mono ?_
      rintro e w2 ⟨rfl, hb⟩
      have HB2 := Aside0.mk (below_step HB1.out hb)
      clear hb HB1 hz0 hz1 hz2 hz3 hz4 hz5 hz6 hz7 hz8
      go_wp2_with fail
      refine (live21_at w2).mono ?_
      rintro e w3 ⟨rfl, hb⟩
      have HB3 := Aside0.mk (below_step HB2.out hb)
      clear hb
      go_wp2
      rw [HQ.out]
      exact ⟨rfl, HB3.out⟩
    | true =>
      by_cases h20 : l2.length ≤ 20
      · have hd : decide (20 < (l2.length : Int)) = false := decide_eq_false (by omega)
        have hL9 := HL.out rfl
        obtain ⟨⟨ay, an, am, ae⟩, ka, hA⟩ := Ask_tot l0 l2 x (by omega) (Lens.le 6 9 x (by omega) hL9)
        obtain ⟨⟨dy, dn, dm, de⟩, kd, hD⟩ := Ask_tot l0 l2 (notP x) (by omega) ⟨by simp [notP], fun y hy => by
          have e : y = x := by simpa [notP] using hy
          rw [e]; exact Lens.le 5 9 x (by omega) hL9⟩
        have hA := hA ka (Nat.le_refl _)
        have hD := hD kd (Nat.le_refl _)
        have SW : Aside0 (ae = 0 → de = 0 → dy = an ∧ dn = ay ∧ dm = am) := ⟨fun h1 h2 => by
          subst h1 h2
          exact not_swaps l0 l2 x ay an am dy dn dm ka kd hA hD⟩
        have S1 : Aside0 (∀ W, Below w.heap.size w W → Calls Try.prog 12 #[.slice A0 l0.length c0, .agg #[.int .i64 x.f0, .string x.f1, .int .i64 x.f2, .bool x.f3.f0, .int .i64 x.f3.f1, .string x.f3.f2, .int .i64 x.f4, .string x.f5, .slice A8 x.f6.length c8], .slice A2 l2.length c2] W fun e w' => e = .returned (.tuple #[.agg #[.bool ay, .bool an, .bool am], .int .i64 ae]) ∧ Below W.heap.size W w') :=
          ⟨fun W hW => prune_Ask.calls ka A0 c0 l0 x.f0 x.f1 x.f2 x.f3.f0 x.f3.f1 x.f3.f2 x.f4 x.f5 A8 c8 x.f6 A2 c2 l2 ay an am ae W (Kd.C_below HR0.out hW) HC0.out (Kd.C_below HR8.out hW) HC8.out (Kd.C_below HR2.out hW) HC2.out hA⟩
        have S2 : Aside0 (∀ W g T, Below w.heap.size w W → W.heap[g]? = some (.cells #[.int .i64 x.f0, .string x.f1, .int .i64 x.f2, .bool x.f3.f0, .int .i64 x.f3.f1, .string x.f3.f2, .int .i64 x.f4, .string x.f5, .slice A8 x.f6.length c8] T (0, 0)) → Calls Try.prog 12 #[.slice A0 l0.length c0, .agg #[.int .i64 5, .string ⟨#[]⟩, .int .i64 0, .bool false, .int .i64 0, .string ⟨#[]⟩, .int .i64 0, .string ⟨#[]⟩, .slice (some ⟨g, 0, none⟩) 1 1], .slice A2 l2.length c2] W fun e w' => e = .returned (.tuple #[.agg #[.bool dy, .bool dn, .bool dm], .int .i64 de]) ∧ Below W.heap.size W w') :=
          ⟨fun W g T hW hg => prune_Ask.calls kd A0 c0 l0 5 ⟨#[]⟩ 0 false 0 ⟨#[]⟩ 0 ⟨#[]⟩ (some ⟨g, 0, none⟩) 1 [x] A2 c2 l2 dy dn dm de W (Kd.C_below HR0.out hW) HC0.out (one27 (Kd.C_below HR8.out hW) HC8.out hg) (by simp) (Kd.C_below HR2.out hW) HC2.out hD⟩
        clear hA hD HL hL9
        go_enter Try.func5, Try.ntmps5
        go_wp2_with fail
        refine (S12.out _ HB.out).mono ?_
        rintro e w1 ⟨rfl, hb⟩
        have BK1 := Aside0.mk (blk_below BK.out hb)
        have HB1 := Aside0.mk (below_step HB.out hb)
        clear hb HB BK
        obtain ⟨hz0, hz1, hz2, hz3, hz4, hz5, hz6, hz7, hz8⟩ := cz9_ BK1.out
        go_wp2_with fail
        refine (S17.out _ HB1.out).mono ?_
        rintro e w2 ⟨rfl, hb⟩
        have BK2 := Aside0.mk (blk_below BK1.out hb)
        have HB2 := Aside0.mk (below_step HB1.out hb)
        clear hb HB1 BK1 hz0 hz1 hz2 hz3 hz4 hz5 hz6 hz7 hz8
        go_wp2
        go_loopg [7] l2.length (fun gk v7 wr => ∃ kk : Nat, kk ≤ l2.length ∧ l2.length - kk ≤ gk ∧ v7 = .int .i64 kk ∧ Aside0 (Below w.heap.size w wr) ∧ Aside0 (wr.heap[w.heap.size]? = some (.cells #[.int .i64 x.f0, .string x.f1, .int .i64 x.f2, .bool x.f3.f0, .int .i64 x.f3.f1, .string x.f3.f2, .int .i64 x.f4, .string x.f5, .slice A8 x.f6.length c8] 27 (0, 0))))
        case atStart => exact ⟨0, Nat.zero_le _, by omega, rfl, HB2, BK2⟩
        case round =>
          obtain ⟨kk, hkk, hg, rfl, BW, BKW⟩ := hrel
          clear HB2 BK2 hd
          by_cases hlt : kk < l2.length
          · have hltz : (kk : Int) < (l2.length : Int) := by omega
            obtain ⟨ad, e, h0, h1, h2, h3, h4, h5, h6, h7⟩ := at_T33 (Kd.C_below HR2.out BW.out) (kk : Int) (by omega) (by omega)
            cases e
            simp only [Int.toNat_natCast] at h0 h1 h2 h3 h4 h5 h6 h7
            generalize rd_T33 l2 (kk : Int) = y at h0 h1 h2 h3 h4 h5 h6 h7
            have out : ∀ W, Below w.heap.size w W → Calls Try.prog 11 #[] W fun e w' => e = .returned (.bool true) ∧ Below w.heap.size w w' := fun W hW => (live21_at W).mono (fun e w1 h => ⟨h.1, below_step hW h.2⟩)
            have OUT := Aside0.mk out
            clear out
            by_cases g1 : (100 : Int) < (y.f2.f2.size : Int)
            · have d1 : decide ((100 : Int) < (y.f2.f2.size : Int)) = true := decide_eq_true g1
              clear g1
              go_wp2_with fail
              refine (OUT.out _ BW.out).mono ?_
              rintro e w3 ⟨rfl, hb⟩
              have HB3 := Aside0.mk hb
              clear hb
              go_wp2
              rw [HQ.out]
              exact ⟨rfl, HB3.out⟩
            · have d1 : decide ((100 : Int) < (y.f2.f2.size : Int)) = false := decide_eq_false g1
              clear g1
              by_cases g2 : (100 : Int) < (y.f3.f2.size : Int)
              · have d2 : decide ((100 : Int) < (y.f3.f2.size : Int)) = true := decide_eq_true g2
                clear g2
                go_wp2_with fail
                refine (OUT.out _ BW.out).mono ?_
                rintro e w3 ⟨rfl, hb⟩
                have HB3 := Aside0.mk hb
                clear hb
                go_wp2
                rw [HQ.out]
                exact ⟨rfl, HB3.out⟩
              · have d2 : decide ((100 : Int) < (y.f3.f2.size : Int)) = false := decide_eq_false g2
                clear g2
                go_wp2
                go_roundg (l2.length - (kk + 1))
                case measure => omega
                refine ⟨kk + 1, by omega, by omega, ?_, BW, BKW⟩
                simp
          · have hltz : ¬ ((kk : Int) < (l2.length : Int)) := by omega
            obtain ⟨hz0, hz1, hz2, hz3, hz4, hz5, hz6, hz7, hz8⟩ := cz9_ BKW.out
            go_wp2_with fail
            refine (S1.out _ BW.out).mono ?_
            rintro e w3 ⟨rfl, hb⟩
            have BK3 := Aside0.mk (blk_below BKW.out hb)
            have HB3 := Aside0.mk (below_step BW.out hb)
            clear hb BKW BW hz0 hz1 hz2 hz3 hz4 hz5 hz6 hz7 hz8
            go_wp2_with ((with_reducible refine gate_dst (N := 8) rfl ?_); refine box_event ?hg (N := 8) ?hd (cs := #[.bool false, .bool false, .bool false]) (t := 35) ?hr ?_; (case hd => rfl); (case hg => rfl); (case hr => first | (go_simp; done) | (go_simp; rfl)); intro g8 hg w4 hbox hb; have NB := Aside0.mk (hg ▸ Nat.ne_of_lt (blk_lt BK3.out) : w.heap.size ≠ g8); have NC := Aside0.mk (fun e => NB.out e.symm : g8 ≠ w.heap.size); have GE8 := Aside0.mk (hg ▸ below_size HB3.out : w.heap.size ≤ g8); have BK4 := Aside0.mk (blk_below BK3.out hb); have HB4 := Aside0.mk (below_step HB3.out hb); have BX := Aside0.mk hbox; clear hb hg hbox HB3 BK3; have hnb := NB.out; have hnc := NC.out; obtain ⟨hf0, hf1, hf2⟩ := fz3_ BX.out; obtain ⟨hc0, hc1, hc2⟩ := cz3_ BX.out; obtain ⟨hz0, hz1, hz2, hz3, hz4, hz5, hz6, hz7, hz8⟩ := cz9_ BK4.out)
            clear hz0 hz1 hz2 hz3 hz4 hz5 hz6 hz7 hz8 hc0 hc1 hc2 hf0 hf1 hf2 hnb hnc
            have BX5 := Aside0.mk (blk_all3_ (u0 := .bool ay) (u1 := .bool an) (u2 := .bool am) BX.out)
            have HB5 : Aside0 (Below w.heap.size w (((w4.setCell ⟨g8, 0, none⟩ (.bool ay)).setCell ⟨g8, 1, none⟩ (.bool an)).setCell ⟨g8, 2, none⟩ (.bool am))) := ⟨below_set (below_set (below_set HB4.out GE8.out) GE8.out) GE8.out⟩
            have hsz : w4.heap.size = (((w4.setCell ⟨g8, 0, none⟩ (.bool ay)).setCell ⟨g8, 1, none⟩ (.bool an)).setCell ⟨g8, 2, none⟩ (.bool am)).heap.size := by simp
            rw [hsz]
            clear hsz BX HB4 BK4
            generalize (((w4.setCell ⟨g8, 0, none⟩ (.bool ay)).setCell ⟨g8, 1, none⟩ (.bool an)).setCell ⟨g8, 2, none⟩ (.bool am)) = w5 at BX5 HB5 ⊢
            refine (S2.out _ w5.heap.size 27 (below_alloc HB5.out _) (heap_alloc_new w5 _)).mono ?_
            rintro e w6 ⟨rfl, hb⟩
            have BX6 := Aside0.mk (blk_below (blk_alloc BX5.out _) hb)
            have HB6 := Aside0.mk (below_step (below_alloc HB5.out _) hb)
            clear hb BX5 HB5
            go_wp2_with ((with_reducible refine gate_dst (N := 10) rfl ?_); refine box_event ?hg (N := 10) ?hd (cs := #[.bool false, .bool false, .bool false]) (t := 35) ?hr ?_; (case hd => rfl); (case hg => rfl); (case hr => first | (go_simp; done) | (go_simp; rfl)); intro g10 hg w7 hbox hb; have NB2 := Aside0.mk (hg ▸ Nat.ne_of_lt (blk_lt BX6.out) : g8 ≠ g10); have NC2 := Aside0.mk (fun e => NB2.out e.symm : g10 ≠ g8); have GE10 := Aside0.mk (hg ▸ below_size HB6.out : w.heap.size ≤ g10); have BX7 := Aside0.mk (blk_below BX6.out hb); have HB7 := Aside0.mk (below_step HB6.out hb); have BY := Aside0.mk hbox; clear hb hg hbox HB6 BX6; have hnb := NB2.out; have hnc := NC2.out; obtain ⟨hf0, hf1, hf2⟩ := fz3_ BY.out; obtain ⟨hc0, hc1, hc2⟩ := cz3_ BY.out)
            clear hc0 hc1 hc2 hf0 hf1 hf2
            have BY8 := Aside0.mk (blk_all3_ (u0 := .bool dy) (u1 := .bool dn) (u2 := .bool dm) BY.out)
            have BX8 := Aside0.mk (blk_far (blk_far (blk_far BX7.out (p := ⟨g10, 0, none⟩) hnb (.bool dy)) (p := ⟨g10, 1, none⟩) hnb (.bool dn)) (p := ⟨g10, 2, none⟩) hnb (.bool dm))
            have HB8 : Aside0 (Below w.heap.size w (((w7.setCell ⟨g10, 0, none⟩ (.bool dy)).setCell ⟨g10, 1, none⟩ (.bool dn)).setCell ⟨g10, 2, none⟩ (.bool dm))) := ⟨below_set (below_set (below_set HB7.out GE10.out) GE10.out) GE10.out⟩
            clear HB7 BX7 BY hnb hnc
            generalize (((w7.setCell ⟨g10, 0, none⟩ (.bool dy)).setCell ⟨g10, 1, none⟩ (.bool dn)).setCell ⟨g10, 2, none⟩ (.bool dm)) = w8 at BX8 BY8 HB8 ⊢
            refine (firkinlaw21_num.calls ae ae w8 rfl).mono ?_
            rintro e w9 ⟨rfl, hd9⟩
            have hb := hd9.below
            have BX9 := Aside0.mk (blk_below BX8.out hb)
            have BY9 := Aside0.mk (blk_below BY8.out hb)
            have HB9 := Aside0.mk (below_step HB8.out hb)
            clear hb hd9 BX8 BY8 HB8
            have OUT : Aside0 (∀ W, Below w.heap.size w W → Calls Try.prog 11 #[] W fun e w' => e = .returned (.bool true) ∧ Below w.heap.size w w') := ⟨fun W hW => (live21_at W).mono (fun e w1 h => ⟨h.1, below_step hW h.2⟩)⟩
            by_cases ha : ae = 0
            · have ha0 : (ae == 0) = true := beq_iff_eq.2 ha
              have ha1 : (ae != 0) = false := bne_eq_false_iff_eq.2 ha
              have HA := Aside0.mk ha
              clear ha
              go_wp2_with fail
              refine (firkinlaw21_num.calls de de w9 rfl).mono ?_
              rintro e w10 ⟨rfl, hd9⟩
              have hb := hd9.below
              have BX10 := Aside0.mk (blk_below BX9.out hb)
              have BY10 := Aside0.mk (blk_below BY9.out hb)
              have HB10 := Aside0.mk (below_step HB9.out hb)
              clear hb hd9 BX9 BY9 HB9
              by_cases hd : de = 0
              · have hd0 : (de == 0) = true := beq_iff_eq.2 hd
                have hd1 : (de != 0) = false := bne_eq_false_iff_eq.2 hd
                obtain ⟨e1, e2, e3⟩ := SW.out HA.out hd
                clear hd
                obtain ⟨ha0, ha1, ha2⟩ := cz3_ BX10.out
                obtain ⟨hb0, hb1, hb2⟩ := cz3_ BY10.out
                subst e1 e2 e3
                have r1 : (dn == dn) = true := by simp
                have r2 : (dy == dy) = true := by simp
                have r3 : (dm == dm) = true := by simp
                go_wp2_with fail
                refine (OUT.out _ HB10.out).mono ?_
                rintro e w11 ⟨rfl, hb⟩
                have HB11 := Aside0.mk hb
                clear hb
                go_wp2
                rw [HQ.out]
                exact ⟨rfl, HB11.out⟩
              · have hd0 : (de == 0) = false := beq_eq_false_iff_ne.2 hd
                have hd1 : (de != 0) = true := bne_iff_ne.2 hd
                clear hd
                go_wp2_with fail
                refine (OUT.out _ HB10.out).mono ?_
                rintro e w11 ⟨rfl, hb⟩
                have HB11 := Aside0.mk hb
                clear hb
                go_wp2
                rw [HQ.out]
                exact ⟨rfl, HB11.out⟩
            · have ha0 : (ae == 0) = false := beq_eq_false_iff_ne.2 ha
              have ha1 : (ae != 0) = true := bne_iff_ne.2 ha
              clear ha
              go_wp2_with fail
              refine (OUT.out _ HB9.out).mono ?_
              rintro e w11 ⟨rfl, hb⟩
              have HB11 := Aside0.mk hb
              clear hb
              go_wp2
              rw [HQ.out]
              exact ⟨rfl, HB11.out⟩
      · have hd : decide (20 < (l2.length : Int)) = true := decide_eq_true (by omega)
        go_enter Try.func5, Try.ntmps5
        go_wp2_with fail
        refine (S12.out _ HB.out).mono ?_
        rintro e w1 ⟨rfl, hb⟩
        have BK1 := Aside0.mk (blk_below BK.out hb)
        have HB1 := Aside0.mk (below_step HB.out hb)
        clear hb HB BK
        obtain ⟨hz0, hz1, hz2, hz3, hz4, hz5, hz6, hz7, hz8⟩ := cz9_ BK1.out
        go_wp2_with fail
        refine (S17.out _ HB1.out).mono ?_
        rintro e w2 ⟨rfl, hb⟩
        have HB2 := Aside0.mk (below_step HB1.out hb)
        clear hb HB1 hz0 hz1 hz2 hz3 hz4 hz5 hz6 hz7 hz8
        go_wp2_with fail
        refine (live21_at w2).mono ?_
        rintro e w3 ⟨rfl, hb⟩
        have HB3 := Aside0.mk (below_step HB2.out hb)
        clear hb
        go_wp2
        rw [HQ.out]
        exact ⟨rfl, HB3.out⟩
end Go.Proofs.Ytdedmhmomoejkaa.X
namespace Go.Proofs.Ytdedmhmomoejkaa.X
open Go.RowKit Go.ChangeShapes Go.WideShapes Go.ChangeAt Go.Proofs.YtdedmhmomoejkaaW.PrintWords
set_option linter.unusedVariables false
theorem prog_own : ownKnob Try.prog.godebug = none := by kernel_rfl
theorem prog_laid : laidOutB Try.prog = true := by kernel_rfl
theorem slice_open {w : World} {α : Type} {d : Kd α} {e : Nat} {l : List α} {cs : List Value} (h : (Kd.slice e d).K w l cs) : ∃ A c, cs = [.slice A l.length c] ∧ l.length ≤ c ∧ d.C w A l.length l := h
set_option maxRecDepth 100000 in
theorem pruneNot_lifted (os : Os) (started : os.Started) (H : Type) (enc : TypeId × Value → H) :
    ReturnsInHanded {} Try.checked os 5 .any (Rows.pruneNotSpec.pre6 enc Try.prog Try.f5 Rows.pruneNotRow.domain false) (Rows.pruneNotSpec.post enc Try.prog Try.f5 false true false false) := by
  refine returnsInHanded_of_change_sized (C := Try.checked) prog_own started (by kernel_rfl) Try.func5
    (ChangeSpec.witness6 (enc := enc) (C := Try.checked) false ⟨#[], #[.slice none 0 0, .agg #[.int .i64 0, .string ByteArray.empty, .int .i64 0, .bool false, .int .i64 0, .string ByteArray.empty, .int .i64 0, .string ByteArray.empty, .slice none 0 0], .slice none 0 0], []⟩ 8 (by kernel_rfl) (by kernel_rfl) (by kernel_rfl) (by kernel_rfl)) ?_
  intro W base args ds gs before hval0 hW hcnd hsz0 _
  have hval : ∀ (j : Nat) t v, Try.f5.params[j]? = some t → args[j]? = some v → Value.okWide Try.prog W .any base t v := hval0
  have hW' := hW
  obtain ⟨p, q, hA0, hV, rfl, hfz, hnd⟩ := hW
  have hA : DataW.TrodAll enc Try.prog W 0 (fun _ => true) true Try.f5.params.toList args.toList ds p := hA0
  rw [Try.params5] at hA hval
  obtain ⟨v0, vs0, d0, ds0, p0, q0, hargs, rfl, rfl, h0, r0⟩ := trodAll_cons hA
  obtain ⟨v1, vs1, d1, ds1, p1, q1, rfl, rfl, rfl, h1, r1⟩ := trodAll_cons r0
  obtain ⟨v2, vs2, d2, ds2, p2, q2, rfl, rfl, rfl, h2, r2⟩ := trodAll_cons r1
  obtain ⟨rfl, rfl, rfl⟩ := trodAll_nil r2
  obtain rfl : args = #[v0, v1, v2] := by cases args; simp_all
  obtain ⟨rfl, rfl⟩ := trodVars_none hV
  obtain ⟨a0, len0, cap0, rfl⟩ := okWide_slice Try.underlying22 (hval 0 22 v0 rfl rfl)
  obtain ⟨cs1, rfl, _⟩ := okWide_struct Try.underlying27 (hval 1 27 v1 rfl rfl)
  obtain ⟨a2, len2, cap2, rfl⟩ := okWide_slice Try.underlying28 (hval 2 28 v2 rfl rfl)
  have lt0 : ∀ x ∈ p0, x.block < W.heap.size := by obtain ⟨m, hm⟩ := h0; exact DataW.trod_lt m _ _ _ hm
  have lt1 : ∀ x ∈ p1, x.block < W.heap.size := by obtain ⟨m, hm⟩ := h1; exact DataW.trod_lt m _ _ _ hm
  have lt2 : ∀ x ∈ p2, x.block < W.heap.size := by obtain ⟨m, hm⟩ := h2; exact DataW.trod_lt m _ _ _ hm
  obtain ⟨l0, A0, c0, e0, hc0, hr0⟩ : ∃ (l0 : List S64) (A0 : Option Addr) (c0 : Nat), Value.slice a0 len0 cap0 = .slice A0 l0.length c0 ∧ l0.length ≤ c0 ∧ Kd.C k64 W A0 l0.length l0 := by
    obtain ⟨m, hm⟩ := h0
    obtain ⟨l, hl, _⟩ := (opens_slice Try.underlying22 (by kernel_rfl) (opens64 m)).go H enc W 0 _ true m _ _ (by omega) hm
    obtain ⟨A, c, hcs, hle, hC⟩ := slice_open hl
    exact ⟨l, A, c, by simpa [Value.cells] using hcs, hle, hC⟩
  obtain ⟨l2, A2, c2, e2, hc2, hr2⟩ : ∃ (l2 : List S33) (A2 : Option Addr) (c2 : Nat), Value.slice a2 len2 cap2 = .slice A2 l2.length c2 ∧ l2.length ≤ c2 ∧ Kd.C k33 W A2 l2.length l2 := by
    obtain ⟨m, hm⟩ := h2
    obtain ⟨l, hl, _⟩ := (opens_slice Try.underlying28 (by kernel_rfl) (opens33 m)).go H enc W 0 _ true m _ _ (by omega) hm
    obtain ⟨A, c, hcs, hle, hC⟩ := slice_open hl
    exact ⟨l, A, c, by simpa [Value.cells] using hcs, hle, hC⟩
  obtain ⟨x, A8, c8, e1, hc8, hr8⟩ : ∃ (x : S27) (A8 : Option Addr) (c8 : Nat), Value.agg cs1 = .agg #[.int .i64 x.f0, .string x.f1, .int .i64 x.f2, .bool x.f3.f0, .int .i64 x.f3.f1, .string x.f3.f2, .int .i64 x.f4, .string x.f5, .slice A8 x.f6.length c8] ∧ x.f6.length ≤ c8 ∧ Kd.C k27 W A8 x.f6.length x.f6 := by
    obtain ⟨m, hm⟩ := h1
    obtain ⟨x, hx, _⟩ := (opens27 m).go H enc W 0 _ true m _ _ (by omega) hm
    obtain ⟨A, c, hcs, hle, hC⟩ := k27_open hx
    refine ⟨x, A, c, ?_, hle, hC⟩
    have : cs1.toList = _ := hcs
    cases cs1
    simp_all
  rw [e0] at h0
  rw [e1] at h1
  rw [e2] at h2
  rw [e0, e1, e2]
  clear hA0 hval0 hsz0
  refine (pruneNot.calls A0 c0 l0 x A8 c8 A2 c2 l2 W hr0 hc0 hr8 hc8 hr2 hc2).mono fun e W' ⟨he, bel⟩ => ?_
  subst he
  have hb0 := Below.trod prog_laid (by kernel_rfl) (of_decide_eq_true (by kernel_rfl)) h0 bel lt0
  have hb1 := Below.trod prog_laid (by kernel_rfl) (of_decide_eq_true (by kernel_rfl)) h1 bel lt1
  have hb2 := Below.trod prog_laid (by kernel_rfl) (of_decide_eq_true (by kernel_rfl)) h2 bel lt2
  rw [e0, e1, e2] at hW'
  exact ⟨_, rfl, _, _, _, [], _, [], hW', trodAll_mk1 (shut_bool Try.underlying4 _), (trodAll_cons_mk hb0 (trodAll_cons_mk hb1 (trodAll_cons_mk hb2 trodAll_mk0))), rfl, bel.frame _, fun h => by cases h⟩
theorem pruneNot_holds : Rows.PruneNotSaid :=
  OpenClaim.holds_of_wide 5 Try.f5 rfl rfl rfl rfl rfl rfl rfl ⟨rfl, rfl, rfl, rfl, rfl⟩ rfl rfl rfl rfl rfl (by kernel_rfl) Try.func5 (by kernel_rfl)
    (of_decide_eq_true (by kernel_rfl)) (by unfold Func.isWrapper; first | (rw [if_pos (by decide +kernel)]; kernel_rfl) | (rw [if_neg (by decide +kernel)]; exact ⟨rfl, rfl⟩))
    (fun os started H enc _ => pruneNot_lifted os started H enc)
end Go.Proofs.Ytdedmhmomoejkaa.X
