/- PruneAsks holds: the answer, the error and the skipping of zones are the documents own, whatever the columns, the predicate and the zones. -/
import Derived.Test.YtdedmhmomoejkaaR1
import Derived.Test.YtdedmhmomoejkaaR6
import Derived.Test.YtdedmhmomoejkaaR7
import Derived.Test.YtdedmhmomoejkaaR11
import Derived.Test.YtdedmhmomoejkaaR12
import Derived.Test.YtdedmhmomoejkaaR13
import Derived.Test.YtdedmhmomoejkaaRows
import Derived.WalkKit
import Derived.OpenShut
import Derived.ShutString
import Derived.ChangeOld
import Derived.Below
import Derived.SizedLaws
namespace Go.Proofs.Ytdedmhmomoejkaa.X
open Go.RowKit Go.Proofs.YtdedmhmomoejkaaW.PrintWords Go.Proofs.YtdedmhmomoejkaaW.PrintLast Go.Proofs.YtdedmhmomoejkaaW.PrintMore
attribute [local go_sem] max2_int max_two
set_option linter.unusedVariables false
set_option linter.unusedSimpArgs false
mutual
def firkinlaw21_PruneAsks.j0 : Nat → List (S64) → List (S33) → Bool → Int → ByteArray → Int → Bool → Int → ByteArray → Int → ByteArray → List (S27) → Option (Bool)
 | 0, _, _, _, _, _, _, _, _, _, _, _, _ => none
 | k + 1, x0, x2, x24, x319000, x319001, x319002, x319003, x319004, x319005, x319006, x319007, x319008 => if x24 = true then ((firkinlaw21_live.f k).bind fun t321 => (some t321)) else (firkinlaw21_PruneAsks.l0 k x0 x2 0 x319000 x319001 x319002 x319003 x319004 x319005 x319006 x319007 x319008)
def firkinlaw21_PruneAsks.l0 : Nat → List (S64) → List (S33) → Int → Int → ByteArray → Int → Bool → Int → ByteArray → Int → ByteArray → List (S27) → Option (Bool)
 | 0, _, _, _, _, _, _, _, _, _, _, _, _ => none
 | k + 1, x0, x2, x7, x319000, x319001, x319002, x319003, x319004, x319005, x319006, x319007, x319008 => if x7 < (x2.length : Int) then (if 0 ≤ x7 then (if (((rd_T33 x2 x7).f2.f2).size : Int) > 100 then ((firkinlaw21_live.f k).bind fun t323 => (some t323)) else (if (((rd_T33 x2 x7).f3.f2).size : Int) > 100 then ((firkinlaw21_live.f k).bind fun t325 => (some t325)) else (firkinlaw21_PruneAsks.l0 k x0 x2 (wrap64 (x7 + 1)) x319000 x319001 x319002 x319003 x319004 x319005 x319006 x319007 x319008))) else (none)) else ((prune_Ask.f k x0 x319000 x319001 x319002 x319003 x319004 x319005 x319006 x319007 x319008 x2).bind fun bt326 => ((firkinref21_Ask.f k x0 x319000 x319001 x319002 x319003 x319004 x319005 x319006 x319007 x319008 x2).bind fun bt331 => ((firkinlaw21_num.f bt326.2.2.2).bind fun t336 => (if t336 = bt331.2.2.2 then (if (bt326.1 == bt331.1) = true then (if (bt326.2.1 == bt331.2.1) = true then (if (bt326.2.2.1 == bt331.2.2.1) = true then ((prune_Skip.f k x0 x319000 x319001 x319002 x319003 x319004 x319005 x319006 x319007 x319008 x2).bind fun t337 => (if bt331.2.2.2 = 0 then (if (t337 == (!bt331.1)) = true then ((firkinlaw21_live.f k).bind fun t338 => (some t338)) else (some false)) else (if (t337 == false) = true then ((firkinlaw21_live.f k).bind fun t339 => (some t339)) else (some false)))) else (some false)) else (some false)) else (some false)) else (some false)))))
end
def firkinlaw21_PruneAsks.f (k : Nat) (l0 : List (S64)) (a1_0 : Int) (a1_1 : ByteArray) (a1_2 : Int) (a1_3 : Bool) (a1_4 : Int) (a1_5 : ByteArray) (a1_6 : Int) (a1_7 : ByteArray) (l1_8 : List (S27)) (l2 : List (S33)) : Option (Bool) := (firkinlaw12_Small.f k l0).bind fun t319 => (if t319 = true then ((firkinref17_Small.f k a1_0 a1_1 a1_2 a1_3 a1_4 a1_5 a1_6 a1_7 l1_8 9).bind fun t320 => (if t320 = true then (firkinlaw21_PruneAsks.j0 k l0 l2 (decide ((l2.length : Int) > 20)) a1_0 a1_1 a1_2 a1_3 a1_4 a1_5 a1_6 a1_7 l1_8) else (firkinlaw21_PruneAsks.j0 k l0 l2 true a1_0 a1_1 a1_2 a1_3 a1_4 a1_5 a1_6 a1_7 l1_8))) else (firkinlaw21_PruneAsks.j0 k l0 l2 true a1_0 a1_1 a1_2 a1_3 a1_4 a1_5 a1_6 a1_7 l1_8))
theorem firkinlaw21_PruneAsks.mono_l : ∀ k, (∀ y0 y1 y2 y3 y4 y5 y6 y7 y8 y9 y10 y11, LeO (firkinlaw21_PruneAsks.j0 k y0 y1 y2 y3 y4 y5 y6 y7 y8 y9 y10 y11) (firkinlaw21_PruneAsks.j0 (k + 1) y0 y1 y2 y3 y4 y5 y6 y7 y8 y9 y10 y11)) ∧ (∀ y0 y1 y2 y3 y4 y5 y6 y7 y8 y9 y10 y11, LeO (firkinlaw21_PruneAsks.l0 k y0 y1 y2 y3 y4 y5 y6 y7 y8 y9 y10 y11) (firkinlaw21_PruneAsks.l0 (k + 1) y0 y1 y2 y3 y4 y5 y6 y7 y8 y9 y10 y11))
 | 0 => ⟨fun _ _ _ _ _ _ _ _ _ _ _ _ r h => by simp [firkinlaw21_PruneAsks.j0] at h, fun _ _ _ _ _ _ _ _ _ _ _ _ r h => by simp [firkinlaw21_PruneAsks.l0] at h⟩
 | k + 1 => by
  obtain ⟨ih0, ih1⟩ := firkinlaw21_PruneAsks.mono_l k
  refine ⟨?_, ?_⟩
  ·intro y0 y1 y2 y3 y4 y5 y6 y7 y8 y9 y10 y11
   unfold firkinlaw21_PruneAsks.j0
   repeat' first
   | (with_reducible exact ih0 _ _ _ _ _ _ _ _ _ _ _ _)
   | (with_reducible exact ih1 _ _ _ _ _ _ _ _ _ _ _ _)
   | (with_reducible exact firkinlaw12_Small.mono _ _)
   | (with_reducible exact firkinlaw21_live.mono _)
   | (with_reducible exact firkinref17_Small.mono _ _ _ _ _ _ _ _ _ _ _)
   | (with_reducible exact firkinref21_Ask.mono _ _ _ _ _ _ _ _ _ _ _ _)
   | (with_reducible exact prune_Ask.mono _ _ _ _ _ _ _ _ _ _ _ _)
   | (with_reducible exact prune_Skip.mono _ _ _ _ _ _ _ _ _ _ _ _)
   | (with_reducible exact LeO.refl _)
   | (with_reducible exact LeO.none _)
   | (with_reducible refine LeO.ite ?_ ?_)
   | (with_reducible refine LeO.bind ?_ (fun _ => ?_))
   | exact ih0 _ _ _ _ _ _ _ _ _ _ _ _
   | exact ih1 _ _ _ _ _ _ _ _ _ _ _ _
   | exact firkinlaw12_Small.mono _ _
   | exact firkinlaw21_live.mono _
   | exact firkinref17_Small.mono _ _ _ _ _ _ _ _ _ _ _
   | exact firkinref21_Ask.mono _ _ _ _ _ _ _ _ _ _ _ _
   | exact prune_Ask.mono _ _ _ _ _ _ _ _ _ _ _ _
   | exact prune_Skip.mono _ _ _ _ _ _ _ _ _ _ _ _
   | exact LeO.none _
   | refine LeO.ite ?_ ?_
   | refine LeO.bind ?_ (fun _ => ?_)
  ·intro y0 y1 y2 y3 y4 y5 y6 y7 y8 y9 y10 y11
   unfold firkinlaw21_PruneAsks.l0
   repeat' first
   | (with_reducible exact ih0 _ _ _ _ _ _ _ _ _ _ _ _)
   | (with_reducible exact ih1 _ _ _ _ _ _ _ _ _ _ _ _)
   | (with_reducible exact firkinlaw12_Small.mono _ _)
   | (with_reducible exact firkinlaw21_live.mono _)
   | (with_reducible exact firkinref17_Small.mono _ _ _ _ _ _ _ _ _ _ _)
   | (with_reducible exact firkinref21_Ask.mono _ _ _ _ _ _ _ _ _ _ _ _)
   | (with_reducible exact prune_Ask.mono _ _ _ _ _ _ _ _ _ _ _ _)
   | (with_reducible exact prune_Skip.mono _ _ _ _ _ _ _ _ _ _ _ _)
   | (with_reducible exact LeO.refl _)
   | (with_reducible exact LeO.none _)
   | (with_reducible refine LeO.ite ?_ ?_)
   | (with_reducible refine LeO.bind ?_ (fun _ => ?_))
   | exact ih0 _ _ _ _ _ _ _ _ _ _ _ _
   | exact ih1 _ _ _ _ _ _ _ _ _ _ _ _
   | exact firkinlaw12_Small.mono _ _
   | exact firkinlaw21_live.mono _
   | exact firkinref17_Small.mono _ _ _ _ _ _ _ _ _ _ _
   | exact firkinref21_Ask.mono _ _ _ _ _ _ _ _ _ _ _ _
   | exact prune_Ask.mono _ _ _ _ _ _ _ _ _ _ _ _
   | exact prune_Skip.mono _ _ _ _ _ _ _ _ _ _ _ _
   | exact LeO.none _
   | refine LeO.ite ?_ ?_
   | refine LeO.bind ?_ (fun _ => ?_)
theorem firkinlaw21_PruneAsks.mono : ∀ a0 a1 a2 a3 a4 a5 a6 a7 a8 a9 a10 k, LeO (firkinlaw21_PruneAsks.f k a0 a1 a2 a3 a4 a5 a6 a7 a8 a9 a10) (firkinlaw21_PruneAsks.f (k + 1) a0 a1 a2 a3 a4 a5 a6 a7 a8 a9 a10) := by
 intro a0 a1 a2 a3 a4 a5 a6 a7 a8 a9 a10 k
 obtain ⟨ih0, ih1⟩ := firkinlaw21_PruneAsks.mono_l k
 unfold firkinlaw21_PruneAsks.f
 repeat' first
   | (with_reducible exact ih0 _ _ _ _ _ _ _ _ _ _ _ _)
   | (with_reducible exact ih1 _ _ _ _ _ _ _ _ _ _ _ _)
   | (with_reducible exact firkinlaw12_Small.mono _ _)
   | (with_reducible exact firkinlaw21_live.mono _)
   | (with_reducible exact firkinref17_Small.mono _ _ _ _ _ _ _ _ _ _ _)
   | (with_reducible exact firkinref21_Ask.mono _ _ _ _ _ _ _ _ _ _ _ _)
   | (with_reducible exact prune_Ask.mono _ _ _ _ _ _ _ _ _ _ _ _)
   | (with_reducible exact prune_Skip.mono _ _ _ _ _ _ _ _ _ _ _ _)
   | (with_reducible exact LeO.refl _)
   | (with_reducible exact LeO.none _)
   | (with_reducible refine LeO.ite ?_ ?_)
   | (with_reducible refine LeO.bind ?_ (fun _ => ?_))
   | exact ih0 _ _ _ _ _ _ _ _ _ _ _ _
   | exact ih1 _ _ _ _ _ _ _ _ _ _ _ _
   | exact firkinlaw12_Small.mono _ _
   | exact firkinlaw21_live.mono _
   | exact firkinref17_Small.mono _ _ _ _ _ _ _ _ _ _ _
   | exact firkinref21_Ask.mono _ _ _ _ _ _ _ _ _ _ _ _
   | exact prune_Ask.mono _ _ _ _ _ _ _ _ _ _ _ _
   | exact prune_Skip.mono _ _ _ _ _ _ _ _ _ _ _ _
   | exact LeO.none _
   | refine LeO.ite ?_ ?_
   | refine LeO.bind ?_ (fun _ => ?_)
set_option maxHeartbeats 8000000 in
set_option maxRecDepth 100000 in
theorem firkinlaw21_PruneAsks.calls (k : Nat) (A0 : Option Addr) (c0 : Nat) (l0 : List (S64)) (a1_0 : Int) (a1_1 : ByteArray) (a1_2 : Int) (a1_3 : Bool) (a1_4 : Int) (a1_5 : ByteArray) (a1_6 : Int) (a1_7 : ByteArray) (A1_8 : Option Addr) (c1_8 : Nat) (l1_8 : List (S27)) (A2 : Option Addr) (c2 : Nat) (l2 : List (S33)) (r : Bool) (w : World) (hr0 : Kd.C k64 w A0 l0.length l0) (hc0 : l0.length ≤ c0) (hr1_8 : Kd.C k27 w A1_8 l1_8.length l1_8) (hc1_8 : l1_8.length ≤ c1_8) (hr2 : Kd.C k33 w A2 l2.length l2) (hc2 : l2.length ≤ c2) (h : firkinlaw21_PruneAsks.f k l0 a1_0 a1_1 a1_2 a1_3 a1_4 a1_5 a1_6 a1_7 l1_8 l2 = some r) :
  Calls Try.prog 3 #[.slice A0 l0.length c0, .agg #[.int .i64 a1_0, .string a1_1, .int .i64 a1_2, .bool a1_3, .int .i64 a1_4, .string a1_5, .int .i64 a1_6, .string a1_7, .slice A1_8 l1_8.length c1_8], .slice A2 l2.length c2] w fun e w' => e = .returned (.bool r) ∧ Below w.heap.size w w' := by
 have hu27 := Try.underlying27
 have hu35 := Try.underlying35
 have hu39 := Try.underlying39
 have HR0 := Aside0.mk hr0
 have HC0 := Aside0.mk hc0
 clear hr0 hc0
 have HR1_8 := Aside0.mk hr1_8
 have HC1_8 := Aside0.mk hc1_8
 clear hr1_8 hc1_8
 have HR2 := Aside0.mk hr2
 have HC2 := Aside0.mk hc2
 clear hr2 hc2
 have HB := Aside0.mk (Below.refl w.heap.size w)
 have H : ((firkinlaw12_Small.f k l0).bind fun t319 => (if t319 = true then ((firkinref17_Small.f k a1_0 a1_1 a1_2 a1_3 a1_4 a1_5 a1_6 a1_7 l1_8 9).bind fun t320 => (if t320 = true then (firkinlaw21_PruneAsks.j0 k l0 l2 (decide ((l2.length : Int) > 20)) a1_0 a1_1 a1_2 a1_3 a1_4 a1_5 a1_6 a1_7 l1_8) else (firkinlaw21_PruneAsks.j0 k l0 l2 true a1_0 a1_1 a1_2 a1_3 a1_4 a1_5 a1_6 a1_7 l1_8))) else (firkinlaw21_PruneAsks.j0 k l0 l2 true a1_0 a1_1 a1_2 a1_3 a1_4 a1_5 a1_6 a1_7 l1_8))) = some r := h
 clear h
 have HC4 := Aside0.mk H
 clear H
 go_enter Try.func3, Try.ntmps3
 go_upto_region 1 with (first | ((with_reducible refine gate_dst (N := 4) rfl ?_); (try (refine gate_guard (by rfl) ?_; dsimp only)); refine bx_ (N := 4) (cs := #[.int .i64 a1_0, .string a1_1, .int .i64 a1_2, .bool a1_3, .int .i64 a1_4, .string a1_5, .int .i64 a1_6, .string a1_7, .slice A1_8 l1_8.length c1_8]) (t := 27) ?_; intro gb318 hg w5 hbox hb; have BK318 := Aside0.mk (hbox); have GW318 := ge_ HB hg; have GE318 := ge_ HB hg; replace HB := bs_ HB hb; clear hb hbox hg))
 (try simp only [Act.put, List.setIfInBounds_toArray, List.set_cons_zero, List.set_cons_succ])
 go_cut [24] (fun v24 wc => ∃ (kq : Nat) (x24_3 : Bool), v24 = .bool x24_3 ∧ Aside0 (firkinlaw21_PruneAsks.j0 kq l0 l2 x24_3 a1_0 a1_1 a1_2 a1_3 a1_4 a1_5 a1_6 a1_7 l1_8 = some r) ∧ Aside0 (kq ≤ k) ∧ Aside0 (wc.heap[gb318]? = some (.cells #[.int .i64 a1_0, .string a1_1, .int .i64 a1_2, .bool a1_3, .int .i64 a1_4, .string a1_5, .int .i64 a1_6, .string a1_7, (.slice A1_8 l1_8.length c1_8)] 27 (0, 0))) ∧ Aside0 (Below w.heap.size w wc))
 case first =>
  have H := HC4.out
  clear HC4
  replace H := Option.bind_eq_some_iff.mp H
  obtain ⟨t319, A60, H⟩ := H
  replace H : (if t319 = true then ((firkinref17_Small.f k a1_0 a1_1 a1_2 a1_3 a1_4 a1_5 a1_6 a1_7 l1_8 9).bind fun t320 => (if t320 = true then (firkinlaw21_PruneAsks.j0 k l0 l2 (decide ((l2.length : Int) > 20)) a1_0 a1_1 a1_2 a1_3 a1_4 a1_5 a1_6 a1_7 l1_8) else (firkinlaw21_PruneAsks.j0 k l0 l2 true a1_0 a1_1 a1_2 a1_3 a1_4 a1_5 a1_6 a1_7 l1_8))) else (firkinlaw21_PruneAsks.j0 k l0 l2 true a1_0 a1_1 a1_2 a1_3 a1_4 a1_5 a1_6 a1_7 l1_8)) = some r := H
  have A6 := Aside0.mk A60
  clear A60
  by_cases c7 : t319 = true
  ·subst c7
   have H1 : ((firkinref17_Small.f k a1_0 a1_1 a1_2 a1_3 a1_4 a1_5 a1_6 a1_7 l1_8 9).bind fun t320 => (if t320 = true then (firkinlaw21_PruneAsks.j0 k l0 l2 (decide ((l2.length : Int) > 20)) a1_0 a1_1 a1_2 a1_3 a1_4 a1_5 a1_6 a1_7 l1_8) else (firkinlaw21_PruneAsks.j0 k l0 l2 true a1_0 a1_1 a1_2 a1_3 a1_4 a1_5 a1_6 a1_7 l1_8))) = some r := by rw [if_pos rfl] at H; exact H
   clear H
   have H := H1
   clear H1
   replace H := Option.bind_eq_some_iff.mp H
   obtain ⟨t320, A80, H⟩ := H
   replace H : (if t320 = true then (firkinlaw21_PruneAsks.j0 k l0 l2 (decide ((l2.length : Int) > 20)) a1_0 a1_1 a1_2 a1_3 a1_4 a1_5 a1_6 a1_7 l1_8) else (firkinlaw21_PruneAsks.j0 k l0 l2 true a1_0 a1_1 a1_2 a1_3 a1_4 a1_5 a1_6 a1_7 l1_8)) = some r := H
   have A8 := Aside0.mk A80
   clear A80
   by_cases c9 : t320 = true
   ·subst c9
    have H1 : (firkinlaw21_PruneAsks.j0 k l0 l2 (decide ((l2.length : Int) > 20)) a1_0 a1_1 a1_2 a1_3 a1_4 a1_5 a1_6 a1_7 l1_8) = some r := by rw [if_pos rfl] at H; exact H
    clear H
    have H := H1
    clear H1
    have H' := Aside0.mk H
    clear H
    go_wp2_with (first | ((with_reducible refine gate_callee (f := 9) rfl ?_); refine gl_ (some 13) rfl Try.func9 #[.slice A0 l0.length c0] ?_; (with_reducible refine (firkinlaw12_Small.calls k _ _ l0 true _ ?side1 ?side2 A6.out).mono ?_); (case side1 => repeat (first | exact (Kd.C_below HR0.out HB.out) | (with_reducible refine Kd.C_alloc ?_ _) | (with_reducible refine Kd.C_drewN ?_ _) | (with_reducible refine Kd.C_drew ?_))); (case side2 => exact HC0.out); rintro e w' ⟨rfl, ⟨nd, rfl⟩⟩; refine ⟨_, rfl, ?_⟩; obtain ⟨C10_0, C10_1, C10_2, C10_3, C10_4, C10_5, C10_6, C10_7, C10_8⟩ := zc9_ BK318.out; obtain ⟨F10_0, F10_1, F10_2, F10_3, F10_4, F10_5, F10_6, F10_7, F10_8⟩ := zf9_ BK318.out) | (go_at_call 10; (with_reducible refine (firkinref17_Small.calls k a1_0 a1_1 a1_2 a1_3 a1_4 a1_5 a1_6 a1_7 _ _ l1_8 9 true _ ?side1 ?side2 A8.out).mono ?_); (case side1 => repeat (first | exact (Kd.C_below HR1_8.out (by repeat (first | (with_reducible first | exact HB.out | apply below_alloc | apply pw_below_drewN | apply below_drew1 | refine below_set ?_ GE318.out) | exact HB.out))) | (with_reducible refine Kd.C_alloc ?_ _) | (with_reducible refine Kd.C_drewN ?_ _) | (with_reducible refine Kd.C_drew ?_))); (case side2 => exact HC1_8.out); rintro e w11 ⟨rfl, hb⟩;  replace BK318 := bk_ BK318 hb; replace HB := bs_ HB hb; (try clear hb)))
    go_meet
    case rel => exact ⟨_, (decide ((l2.length : Int) > 20)), (by first | rfl | (simp; done) | (simp [*]; done)), H', ⟨by first | omega | exact Nat.le_refl _⟩, ⟨by (with_reducible repeat (first | refine blk_drewN ?_ _ | refine blk_drew ?_ | refine blk_alloc ?_ _)); exact BK318.out⟩, ⟨by repeat (first | (with_reducible first | exact HB.out | apply below_alloc | apply pw_below_drewN | apply below_drew1 | refine below_set ?_ GE318.out) | exact HB.out)⟩⟩
   ·replace c9 := Bool.eq_false_iff.mpr c9
    subst c9
    have H1 : (firkinlaw21_PruneAsks.j0 k l0 l2 true a1_0 a1_1 a1_2 a1_3 a1_4 a1_5 a1_6 a1_7 l1_8) = some r := by rw [if_neg (show ¬ (false = true) by decide)] at H; exact H
    clear H
    have H := H1
    clear H1
    have H' := Aside0.mk H
    clear H
    go_wp2_with (first | ((with_reducible refine gate_callee (f := 9) rfl ?_); refine gl_ (some 13) rfl Try.func9 #[.slice A0 l0.length c0] ?_; (with_reducible refine (firkinlaw12_Small.calls k _ _ l0 true _ ?side1 ?side2 A6.out).mono ?_); (case side1 => repeat (first | exact (Kd.C_below HR0.out HB.out) | (with_reducible refine Kd.C_alloc ?_ _) | (with_reducible refine Kd.C_drewN ?_ _) | (with_reducible refine Kd.C_drew ?_))); (case side2 => exact HC0.out); rintro e w' ⟨rfl, ⟨nd, rfl⟩⟩; refine ⟨_, rfl, ?_⟩; obtain ⟨C12_0, C12_1, C12_2, C12_3, C12_4, C12_5, C12_6, C12_7, C12_8⟩ := zc9_ BK318.out; obtain ⟨F12_0, F12_1, F12_2, F12_3, F12_4, F12_5, F12_6, F12_7, F12_8⟩ := zf9_ BK318.out) | (go_at_call 10; (with_reducible refine (firkinref17_Small.calls k a1_0 a1_1 a1_2 a1_3 a1_4 a1_5 a1_6 a1_7 _ _ l1_8 9 false _ ?side1 ?side2 A8.out).mono ?_); (case side1 => repeat (first | exact (Kd.C_below HR1_8.out (by repeat (first | (with_reducible first | exact HB.out | apply below_alloc | apply pw_below_drewN | apply below_drew1 | refine below_set ?_ GE318.out) | exact HB.out))) | (with_reducible refine Kd.C_alloc ?_ _) | (with_reducible refine Kd.C_drewN ?_ _) | (with_reducible refine Kd.C_drew ?_))); (case side2 => exact HC1_8.out); rintro e w13 ⟨rfl, hb⟩;  replace BK318 := bk_ BK318 hb; replace HB := bs_ HB hb; (try clear hb)))
    go_meet
    case rel => exact ⟨_, (true), (by first | rfl | (simp; done) | (simp [*]; done)), H', ⟨by first | omega | exact Nat.le_refl _⟩, ⟨by (with_reducible repeat (first | refine blk_drewN ?_ _ | refine blk_drew ?_ | refine blk_alloc ?_ _)); exact BK318.out⟩, ⟨by repeat (first | (with_reducible first | exact HB.out | apply below_alloc | apply pw_below_drewN | apply below_drew1 | refine below_set ?_ GE318.out) | exact HB.out)⟩⟩
  ·replace c7 := Bool.eq_false_iff.mpr c7
   subst c7
   have H1 : (firkinlaw21_PruneAsks.j0 k l0 l2 true a1_0 a1_1 a1_2 a1_3 a1_4 a1_5 a1_6 a1_7 l1_8) = some r := by rw [if_neg (show ¬ (false = true) by decide)] at H; exact H
   clear H
   have H := H1
   clear H1
   have H' := Aside0.mk H
   clear H
   go_wp2_with (first | ((with_reducible refine gate_callee (f := 9) rfl ?_); refine gl_ (some 13) rfl Try.func9 #[.slice A0 l0.length c0] ?_; (with_reducible refine (firkinlaw12_Small.calls k _ _ l0 false _ ?side1 ?side2 A6.out).mono ?_); (case side1 => repeat (first | exact (Kd.C_below HR0.out HB.out) | (with_reducible refine Kd.C_alloc ?_ _) | (with_reducible refine Kd.C_drewN ?_ _) | (with_reducible refine Kd.C_drew ?_))); (case side2 => exact HC0.out); rintro e w' ⟨rfl, ⟨nd, rfl⟩⟩; refine ⟨_, rfl, ?_⟩))
   go_meet
   case rel => exact ⟨_, (true), (by first | rfl | (simp; done) | (simp [*]; done)), H', ⟨by first | omega | exact Nat.le_refl _⟩, ⟨by (with_reducible repeat (first | refine blk_drewN ?_ _ | refine blk_drew ?_ | refine blk_alloc ?_ _)); exact BK318.out⟩, ⟨by repeat (first | (with_reducible first | exact HB.out | apply below_alloc | apply pw_below_drewN | apply below_drew1 | refine below_set ?_ GE318.out) | exact HB.out)⟩⟩
 case rest =>
  clear HC4
  try clear c1
  try clear c2
  try clear p2
  try clear c3
  try clear c7
  try clear c9
  try clear C10_0 C10_1 C10_2 C10_3 C10_4 C10_5 C10_6 C10_7 C10_8
  try clear C12_0 C12_1 C12_2 C12_3 C12_4 C12_5 C12_6 C12_7 C12_8
  try clear F10_0 F10_1 F10_2 F10_3 F10_4 F10_5 F10_6 F10_7 F10_8
  try clear F12_0 F12_1 F12_2 F12_3 F12_4 F12_5 F12_6 F12_7 F12_8
  obtain ⟨kq, x24_3, rfl, HA, HJ3, BK318, HB⟩ := hcut
  cases kq with
  | zero => exact absurd HA.out (by simp [firkinlaw21_PruneAsks.j0])
  | succ kj3 =>
   have H := HA.out
   clear HA
   simp only [firkinlaw21_PruneAsks.j0] at H
   by_cases c14 : x24_3 = true
   ·subst c14
    have H1 : ((firkinlaw21_live.f kj3).bind fun t321 => (some t321)) = some r := by rw [if_pos rfl] at H; exact H
    clear H
    have H := H1
    clear H1
    replace H := Option.bind_eq_some_iff.mp H
    obtain ⟨t321, A150, H⟩ := H
    replace H : (some t321) = some r := H
    have A15 := Aside0.mk A150
    clear A150
    obtain rfl := Option.some.inj H
    go_wp2_with (first | ((with_reducible refine gate_callee (f := 11) rfl ?_); refine gl_ (some 25) rfl Try.func11 #[] ?_; (with_reducible refine (firkinlaw21_live.calls kj3  t321 _ A15.out).mono ?_); rintro e w16 ⟨rfl, hb⟩; refine ⟨_, rfl, ?_⟩;  replace BK318 := bk_ BK318 hb; replace HB := bs_ HB hb; (try clear hb)))
    go_ret
    exact en_ HB
   ·replace c14 := Bool.eq_false_iff.mpr c14
    subst c14
    have H1 : (firkinlaw21_PruneAsks.l0 kj3 l0 l2 0 a1_0 a1_1 a1_2 a1_3 a1_4 a1_5 a1_6 a1_7 l1_8) = some r := by rw [if_neg (show ¬ (false = true) by decide)] at H; exact H
    clear H
    have H := H1
    clear H1
    have H' := Aside0.mk H
    clear H
    go_wp2
    go_loopg [7] kj3 (fun kq v7 w' => ∃ (x7_2 : Int), v7 = .int .i64 x7_2 ∧ Aside0 (firkinlaw21_PruneAsks.l0 kq l0 l2 x7_2 a1_0 a1_1 a1_2 a1_3 a1_4 a1_5 a1_6 a1_7 l1_8 = some r) ∧ Aside0 (kq ≤ kj3) ∧ Aside0 (w'.heap[gb318]? = some (.cells #[.int .i64 a1_0, .string a1_1, .int .i64 a1_2, .bool a1_3, .int .i64 a1_4, .string a1_5, .int .i64 a1_6, .string a1_7, (.slice A1_8 l1_8.length c1_8)] 27 (0, 0))) ∧ Aside0 (Below w.heap.size w w'))
    case atStart => exact ⟨(0), (by first | rfl | (simp; done) | (simp [*]; done)), H', ⟨Nat.le_refl _⟩, ⟨by (with_reducible repeat (first | refine blk_drewN ?_ _ | refine blk_drew ?_ | refine blk_alloc ?_ _)); exact BK318.out⟩, ⟨by repeat (first | (with_reducible first | exact HB.out | apply below_alloc | apply pw_below_drewN | apply below_drew1 | refine below_set ?_ GE318.out) | exact HB.out)⟩⟩
    case round =>
     clear H'
     try clear c1
     try clear c2
     try clear p2
     try clear c3
     try clear c7
     try clear c9
     try clear c11
     try clear c14
     try clear C10_0 C10_1 C10_2 C10_3 C10_4 C10_5 C10_6 C10_7 C10_8
     try clear C12_0 C12_1 C12_2 C12_3 C12_4 C12_5 C12_6 C12_7 C12_8
     try clear F10_0 F10_1 F10_2 F10_3 F10_4 F10_5 F10_6 F10_7 F10_8
     try clear F12_0 F12_1 F12_2 F12_3 F12_4 F12_5 F12_6 F12_7 F12_8
     try clear p2
     obtain ⟨x7_2, rfl, HA, HK2, BK318, HB⟩ := hrel
     cases gk with
     | zero => exact absurd HA.out (by simp [firkinlaw21_PruneAsks.l0])
     | succ k2 =>
      have H := HA.out
      clear HA
      simp only [firkinlaw21_PruneAsks.l0] at H
      by_cases c17 : x7_2 < (l2.length : Int)
      ·rw [if_pos c17] at H
       have c17b0 : decide (x7_2 < (l2.length : Int)) = true := decide_eq_true c17
       clear c17
       by_cases c18 : 0 ≤ x7_2
       ·rw [if_pos c18] at H
        have c18b0 : decide (0 ≤ x7_2) = true := decide_eq_true c18
        clear c18
        by_cases c19 : (((rd_T33 l2 x7_2).f2.f2).size : Int) > 100
        ·rw [if_pos c19] at H
         have c19b0 : decide (100 < (((rd_T33 l2 x7_2).f2.f2).size : Int)) = true := decide_eq_true c19
         have c19b1 : decide (100 < ((rd_T33 l2 x7_2).f2.f2).size) = true := decide_eq_true (by omega)
         clear c19
         replace H := Option.bind_eq_some_iff.mp H
         obtain ⟨t323, A200, H⟩ := H
         replace H : (some t323) = some r := H
         have A20 := Aside0.mk A200
         clear A200
         obtain rfl := Option.some.inj H
         have p322 : 0 ≤ (x7_2 : Int) := dt_
         have q322 : x7_2 < (l2.length : Int) := dt_
         obtain ⟨ad322, e322, hx322_0, hx322_1, hx322_2, hx322_3, hx322_4, hx322_5, hx322_6, hx322_7⟩ := at_T33 HR2.out x7_2 p322 q322
         cases e322
         replace hx322_0 := hc_ HB hx322_0
         replace hx322_1 := hc_ HB hx322_1
         replace hx322_2 := hc_ HB hx322_2
         replace hx322_3 := hc_ HB hx322_3
         replace hx322_4 := hc_ HB hx322_4
         replace hx322_5 := hc_ HB hx322_5
         replace hx322_6 := hc_ HB hx322_6
         replace hx322_7 := hc_ HB hx322_7
         replace p322 := eq_true p322
         replace q322 := eq_true q322
         go_wp2_with (first | ((with_reducible refine gate_callee (f := 11) rfl ?_); refine gl_ (some 50) rfl Try.func11 #[] ?_; (with_reducible refine (firkinlaw21_live.calls k2  t323 _ A20.out).mono ?_); rintro e w21 ⟨rfl, hb⟩; refine ⟨_, rfl, ?_⟩;  replace BK318 := bk_ BK318 hb; replace HB := bs_ HB hb; (try clear hb)))
         go_ret
         exact en_ HB
        ·rw [if_neg c19] at H
         have c19b0 : decide (100 < (((rd_T33 l2 x7_2).f2.f2).size : Int)) = false := decide_eq_false c19
         have c19b1 : decide (100 < ((rd_T33 l2 x7_2).f2.f2).size) = false := decide_eq_false (by omega)
         clear c19
         by_cases c22 : (((rd_T33 l2 x7_2).f3.f2).size : Int) > 100
         ·rw [if_pos c22] at H
          have c22b0 : decide (100 < (((rd_T33 l2 x7_2).f3.f2).size : Int)) = true := decide_eq_true c22
          have c22b1 : decide (100 < ((rd_T33 l2 x7_2).f3.f2).size) = true := decide_eq_true (by omega)
          clear c22
          replace H := Option.bind_eq_some_iff.mp H
          obtain ⟨t325, A230, H⟩ := H
          replace H : (some t325) = some r := H
          have A23 := Aside0.mk A230
          clear A230
          obtain rfl := Option.some.inj H
          have p322 : 0 ≤ (x7_2 : Int) := dt_
          have q322 : x7_2 < (l2.length : Int) := dt_
          obtain ⟨ad322, e322, hx322_0, hx322_1, hx322_2, hx322_3, hx322_4, hx322_5, hx322_6, hx322_7⟩ := at_T33 HR2.out x7_2 p322 q322
          cases e322
          replace hx322_0 := hc_ HB hx322_0
          replace hx322_1 := hc_ HB hx322_1
          replace hx322_2 := hc_ HB hx322_2
          replace hx322_3 := hc_ HB hx322_3
          replace hx322_4 := hc_ HB hx322_4
          replace hx322_5 := hc_ HB hx322_5
          replace hx322_6 := hc_ HB hx322_6
          replace hx322_7 := hc_ HB hx322_7
          replace p322 := eq_true p322
          replace q322 := eq_true q322
          have p324 : 0 ≤ (x7_2 : Int) := dt_
          have q324 : x7_2 < (l2.length : Int) := dt_
          obtain ⟨ad324, e324, hx324_0, hx324_1, hx324_2, hx324_3, hx324_4, hx324_5, hx324_6, hx324_7⟩ := at_T33 HR2.out x7_2 p324 q324
          obtain rfl : ad322 = ad324 := (by injection e324)
          replace hx324_0 := hc_ HB hx324_0
          replace hx324_1 := hc_ HB hx324_1
          replace hx324_2 := hc_ HB hx324_2
          replace hx324_3 := hc_ HB hx324_3
          replace hx324_4 := hc_ HB hx324_4
          replace hx324_5 := hc_ HB hx324_5
          replace hx324_6 := hc_ HB hx324_6
          replace hx324_7 := hc_ HB hx324_7
          replace p324 := eq_true p324
          replace q324 := eq_true q324
          go_wp2_with (first | ((with_reducible refine gate_callee (f := 11) rfl ?_); refine gl_ (some 50) rfl Try.func11 #[] ?_; (with_reducible refine (firkinlaw21_live.calls k2  t325 _ A23.out).mono ?_); rintro e w24 ⟨rfl, hb⟩; refine ⟨_, rfl, ?_⟩;  replace BK318 := bk_ BK318 hb; replace HB := bs_ HB hb; (try clear hb)))
          go_ret
          exact en_ HB
         ·rw [if_neg c22] at H
          have c22b0 : decide (100 < (((rd_T33 l2 x7_2).f3.f2).size : Int)) = false := decide_eq_false c22
          have c22b1 : decide (100 < ((rd_T33 l2 x7_2).f3.f2).size) = false := decide_eq_false (by omega)
          clear c22
          have H' := Aside0.mk H
          clear H
          have p322 : 0 ≤ (x7_2 : Int) := dt_
          have q322 : x7_2 < (l2.length : Int) := dt_
          obtain ⟨ad322, e322, hx322_0, hx322_1, hx322_2, hx322_3, hx322_4, hx322_5, hx322_6, hx322_7⟩ := at_T33 HR2.out x7_2 p322 q322
          cases e322
          replace hx322_0 := hc_ HB hx322_0
          replace hx322_1 := hc_ HB hx322_1
          replace hx322_2 := hc_ HB hx322_2
          replace hx322_3 := hc_ HB hx322_3
          replace hx322_4 := hc_ HB hx322_4
          replace hx322_5 := hc_ HB hx322_5
          replace hx322_6 := hc_ HB hx322_6
          replace hx322_7 := hc_ HB hx322_7
          replace p322 := eq_true p322
          replace q322 := eq_true q322
          have p324 : 0 ≤ (x7_2 : Int) := dt_
          have q324 : x7_2 < (l2.length : Int) := dt_
          obtain ⟨ad324, e324, hx324_0, hx324_1, hx324_2, hx324_3, hx324_4, hx324_5, hx324_6, hx324_7⟩ := at_T33 HR2.out x7_2 p324 q324
          obtain rfl : ad322 = ad324 := (by injection e324)
          replace hx324_0 := hc_ HB hx324_0
          replace hx324_1 := hc_ HB hx324_1
          replace hx324_2 := hc_ HB hx324_2
          replace hx324_3 := hc_ HB hx324_3
          replace hx324_4 := hc_ HB hx324_4
          replace hx324_5 := hc_ HB hx324_5
          replace hx324_6 := hc_ HB hx324_6
          replace hx324_7 := hc_ HB hx324_7
          replace p324 := eq_true p324
          replace q324 := eq_true q324
          go_wp2
          go_roundg k2
          case measure => have := HJ3.out; have := HK2.out; omega
          case rel => exact ⟨(wrap64 (x7_2 + 1)), (by first | rfl | (simp; done) | (simp [*]; done)), H', ⟨by have := HJ3.out; have := HK2.out; omega⟩, ⟨by (with_reducible repeat (first | refine blk_drewN ?_ _ | refine blk_drew ?_ | refine blk_alloc ?_ _)); exact BK318.out⟩, ⟨by repeat (first | (with_reducible first | exact HB.out | apply below_alloc | apply pw_below_drewN | apply below_drew1 | refine below_set ?_ GE318.out) | exact HB.out)⟩⟩
       ·rw [if_neg c18] at H
        exact absurd H (by simp)
      ·rw [if_neg c17] at H
       have c17b0 : decide (x7_2 < (l2.length : Int)) = false := decide_eq_false c17
       clear c17
       replace H := Option.bind_eq_some_iff.mp H
       obtain ⟨⟨t326, t327, t328, t329⟩, A250, H⟩ := H
       replace H : ((firkinref21_Ask.f k2 l0 a1_0 a1_1 a1_2 a1_3 a1_4 a1_5 a1_6 a1_7 l1_8 l2).bind fun bt331 => ((firkinlaw21_num.f t329).bind fun t336 => (if t336 = bt331.2.2.2 then (if (t326 == bt331.1) = true then (if (t327 == bt331.2.1) = true then (if (t328 == bt331.2.2.1) = true then ((prune_Skip.f k2 l0 a1_0 a1_1 a1_2 a1_3 a1_4 a1_5 a1_6 a1_7 l1_8 l2).bind fun t337 => (if bt331.2.2.2 = 0 then (if (t337 == (!bt331.1)) = true then ((firkinlaw21_live.f k2).bind fun t338 => (some t338)) else (some false)) else (if (t337 == false) = true then ((firkinlaw21_live.f k2).bind fun t339 => (some t339)) else (some false)))) else (some false)) else (some false)) else (some false)) else (some false)))) = some r := H
       have A25 := Aside0.mk A250
       clear A250
       replace H := Option.bind_eq_some_iff.mp H
       obtain ⟨⟨t331, t332, t333, t334⟩, A260, H⟩ := H
       replace H : ((firkinlaw21_num.f t329).bind fun t336 => (if t336 = t334 then (if (t326 == t331) = true then (if (t327 == t332) = true then (if (t328 == t333) = true then ((prune_Skip.f k2 l0 a1_0 a1_1 a1_2 a1_3 a1_4 a1_5 a1_6 a1_7 l1_8 l2).bind fun t337 => (if t334 = 0 then (if (t337 == (!t331)) = true then ((firkinlaw21_live.f k2).bind fun t338 => (some t338)) else (some false)) else (if (t337 == false) = true then ((firkinlaw21_live.f k2).bind fun t339 => (some t339)) else (some false)))) else (some false)) else (some false)) else (some false)) else (some false))) = some r := H
       have A26 := Aside0.mk A260
       clear A260
       replace H := Option.bind_eq_some_iff.mp H
       obtain ⟨t336, A270, H⟩ := H
       replace H : (if t336 = t334 then (if (t326 == t331) = true then (if (t327 == t332) = true then (if (t328 == t333) = true then ((prune_Skip.f k2 l0 a1_0 a1_1 a1_2 a1_3 a1_4 a1_5 a1_6 a1_7 l1_8 l2).bind fun t337 => (if t334 = 0 then (if (t337 == (!t331)) = true then ((firkinlaw21_live.f k2).bind fun t338 => (some t338)) else (some false)) else (if (t337 == false) = true then ((firkinlaw21_live.f k2).bind fun t339 => (some t339)) else (some false)))) else (some false)) else (some false)) else (some false)) else (some false)) = some r := H
       have A27 := Aside0.mk A270
       clear A270
       by_cases c28 : t336 = t334
       ·rw [if_pos c28] at H
        have c28b0 : (t336 == t334) = true := beq_iff_eq.mpr c28
        have c28b1 : (t336 != t334) = false := bne_eq_false_iff_eq.mpr c28
        clear c28
        by_cases c29 : (t326 == t331) = true
        ·rw [if_pos c29] at H
         have c29b0 : (t326 == t331) = true := c29
         (try (have c29b1 : decide (t326 = t331) = true := by simpa using c29))
         (try (have c29b2 : (t326 == t331) = true := by simpa using c29))
         clear c29
         by_cases c30 : (t327 == t332) = true
         ·rw [if_pos c30] at H
          have c30b0 : (t327 == t332) = true := c30
          (try (have c30b1 : decide (t327 = t332) = true := by simpa using c30))
          (try (have c30b2 : (t327 == t332) = true := by simpa using c30))
          clear c30
          by_cases c31 : (t328 == t333) = true
          ·rw [if_pos c31] at H
           have c31b0 : (t328 == t333) = true := c31
           (try (have c31b1 : decide (t328 = t333) = true := by simpa using c31))
           (try (have c31b2 : (t328 == t333) = true := by simpa using c31))
           clear c31
           replace H := Option.bind_eq_some_iff.mp H
           obtain ⟨t337, A320, H⟩ := H
           replace H : (if t334 = 0 then (if (t337 == (!t331)) = true then ((firkinlaw21_live.f k2).bind fun t338 => (some t338)) else (some false)) else (if (t337 == false) = true then ((firkinlaw21_live.f k2).bind fun t339 => (some t339)) else (some false))) = some r := H
           have A32 := Aside0.mk A320
           clear A320
           by_cases c33 : t334 = 0
           ·rw [if_pos c33] at H
            have c33b0 : (t334 == 0) = true := beq_iff_eq.mpr c33
            have c33b1 : (t334 != 0) = false := bne_eq_false_iff_eq.mpr c33
            clear c33
            by_cases c34 : (t337 == (!t331)) = true
            ·rw [if_pos c34] at H
             have c34b0 : (t337 == (!t331)) = true := c34
             (try (have c34b1 : decide (t337 = (!t331)) = true := by simpa using c34))
             (try (have c34b2 : (t337 == (!t331)) = true := by simpa using c34))
             clear c34
             replace H := Option.bind_eq_some_iff.mp H
             obtain ⟨t338, A350, H⟩ := H
             replace H : (some t338) = some r := H
             have A35 := Aside0.mk A350
             clear A350
             obtain rfl := Option.some.inj H
             obtain ⟨C36_0, C36_1, C36_2, C36_3, C36_4, C36_5, C36_6, C36_7, C36_8⟩ := cz9_ BK318.out
             obtain ⟨F36_0, F36_1, F36_2, F36_3, F36_4, F36_5, F36_6, F36_7, F36_8⟩ := fz9_ BK318.out
             go_wp2_with (first | ((with_reducible refine gate_callee (f := 12) rfl ?_); refine gl_ (some 55) rfl Try.func12 #[.slice A0 l0.length c0, .agg #[.int .i64 a1_0, .string a1_1, .int .i64 a1_2, .bool a1_3, .int .i64 a1_4, .string a1_5, .int .i64 a1_6, .string a1_7, .slice A1_8 l1_8.length c1_8], .slice A2 l2.length c2] ?_; (with_reducible refine (prune_Ask.calls k2 _ _ l0 a1_0 a1_1 a1_2 a1_3 a1_4 a1_5 a1_6 a1_7 _ _ l1_8 _ _ l2 t326 t327 t328 t329 _ ?side1 ?side2 ?side3 ?side4 ?side5 ?side6 A25.out).mono ?_); (case side1 => repeat (first | exact (Kd.C_below HR0.out HB.out) | (with_reducible refine Kd.C_alloc ?_ _) | (with_reducible refine Kd.C_drewN ?_ _) | (with_reducible refine Kd.C_drew ?_))); (case side2 => exact HC0.out); (case side3 => repeat (first | exact (Kd.C_below HR1_8.out HB.out) | (with_reducible refine Kd.C_alloc ?_ _) | (with_reducible refine Kd.C_drewN ?_ _) | (with_reducible refine Kd.C_drew ?_))); (case side4 => exact HC1_8.out); (case side5 => repeat (first | exact (Kd.C_below HR2.out HB.out) | (with_reducible refine Kd.C_alloc ?_ _) | (with_reducible refine Kd.C_drewN ?_ _) | (with_reducible refine Kd.C_drew ?_))); (case side6 => exact HC2.out); rintro e w37 ⟨rfl, hb⟩; refine ⟨_, rfl, ?_⟩;  replace BK318 := bk_ BK318 hb; replace HB := bs_ HB hb; (try clear hb)) | ((with_reducible refine gate_dst (N := 8) rfl ?_); (try (refine gate_guard (by rfl) ?_; dsimp only)); refine bx_ (N := 8) (cs := #[.bool false, .bool false, .bool false]) (t := 35) ?_; intro gb330 hg w38 hbox hb; have BK330 := Aside0.mk (hbox); have GW330 := ge_ HB hg; have GE330 := ge_ HB hg; have NB318_330 := lt_ BK318 hg; have NB330_318 := gt_ BK318 hg; replace BK318 := bk_ BK318 hb; replace HB := bs_ HB hb; clear hb hbox hg; have hnb39 := NB330_318.out; have hnc39 := NB318_330.out; obtain ⟨C40_0, C40_1, C40_2⟩ := zc3_ BK330.out; obtain ⟨F40_0, F40_1, F40_2⟩ := zf3_ BK330.out; obtain ⟨C41_0, C41_1, C41_2, C41_3, C41_4, C41_5, C41_6, C41_7, C41_8⟩ := zc9_ BK318.out; obtain ⟨F41_0, F41_1, F41_2, F41_3, F41_4, F41_5, F41_6, F41_7, F41_8⟩ := zf9_ BK318.out) | ((with_reducible refine gate_callee (f := 13) rfl ?_); refine gl_ (some 62) rfl Try.func13 #[.slice A0 l0.length c0, .agg #[.int .i64 a1_0, .string a1_1, .int .i64 a1_2, .bool a1_3, .int .i64 a1_4, .string a1_5, .int .i64 a1_6, .string a1_7, .slice A1_8 l1_8.length c1_8], .slice A2 l2.length c2] ?_; (with_reducible refine (firkinref21_Ask.calls k2 _ _ l0 a1_0 a1_1 a1_2 a1_3 a1_4 a1_5 a1_6 a1_7 _ _ l1_8 _ _ l2 t331 t332 t333 t334 _ ?side1 ?side2 ?side3 ?side4 ?side5 ?side6 A26.out).mono ?_); (case side1 => exact Kd.C_below HR0.out (by repeat (first | (with_reducible first | exact HB.out | apply below_alloc | apply pw_below_drewN | apply below_drew1 | refine below_set ?_ GE318.out | refine below_set ?_ GE330.out) | exact HB.out))); (case side2 => exact HC0.out); (case side3 => exact Kd.C_below HR1_8.out (by repeat (first | (with_reducible first | exact HB.out | apply below_alloc | apply pw_below_drewN | apply below_drew1 | refine below_set ?_ GE318.out | refine below_set ?_ GE330.out) | exact HB.out))); (case side4 => exact HC1_8.out); (case side5 => exact Kd.C_below HR2.out (by repeat (first | (with_reducible first | exact HB.out | apply below_alloc | apply pw_below_drewN | apply below_drew1 | refine below_set ?_ GE318.out | refine below_set ?_ GE330.out) | exact HB.out))); (case side6 => exact HC2.out); rintro e w42 ⟨rfl, hb⟩; refine ⟨_, rfl, ?_⟩; have n0_ := Aside0.mk (blk_below (g := gb318) (o := .cells #[.int .i64 a1_0, .string a1_1, .int .i64 a1_2, .bool a1_3, .int .i64 a1_4, .string a1_5, .int .i64 a1_6, .string a1_7, .slice A1_8 l1_8.length c1_8] 27 (0, 0)) (by (iterate 3 ((with_reducible repeat (first | refine blk_drewN ?_ _ | refine blk_drew ?_ | refine blk_alloc ?_ _)); refine blk_far ?_ NB318_330.out _)); (with_reducible repeat (first | refine blk_drewN ?_ _ | refine blk_drew ?_ | refine blk_alloc ?_ _)); exact BK318.out) hb); have n1_ := Aside0.mk (blk_below (g := gb330) (o := .cells #[.bool t326, .bool t327, .bool t328] 35 (0, 0)) (by (with_reducible repeat (first | refine blk_drewN ?_ _ | refine blk_drew ?_ | refine blk_alloc ?_ _)); apply blk_all3_; (with_reducible repeat (first | refine blk_drewN ?_ _ | refine blk_drew ?_ | refine blk_alloc ?_ _)); exact BK330.out) hb); have n2_ := bs_ HB hb; clear BK318; clear BK330; clear HB; have BK318 := n0_; have BK330 := n1_; have HB := n2_; clear n0_ n1_ n2_; (try clear hb)) | ((with_reducible refine gate_dst (N := 10) rfl ?_); (try (refine gate_guard (by rfl) ?_; dsimp only)); refine bx_ (N := 10) (cs := #[.bool false, .bool false, .bool false]) (t := 39) ?_; intro gb335 hg w43 hbox hb; have BK335 := Aside0.mk (hbox); have GW335 := ge_ HB hg; have GE335 := ge_ HB hg; have NB318_335 := lt_ BK318 hg; have NB335_318 := gt_ BK318 hg; have NB330_335 := lt_ BK330 hg; have NB335_330 := gt_ BK330 hg; replace BK318 := bk_ BK318 hb; replace BK330 := bk_ BK330 hb; replace HB := bs_ HB hb; clear hb hbox hg; have hnb44 := NB335_318.out; have hnc44 := NB318_335.out; have hnb45 := NB335_330.out; have hnc45 := NB330_335.out; obtain ⟨C46_0, C46_1, C46_2⟩ := zc3_ BK335.out; obtain ⟨F46_0, F46_1, F46_2⟩ := zf3_ BK335.out) | ((with_reducible refine gate_callee (f := 14) rfl ?_); refine gl_ (some 66) rfl Try.func14 #[.int .i64 t329] ?_; (with_reducible refine (firkinlaw21_num.calls t329 t336 _ A27.out).mono ?_); rintro e w' ⟨rfl, ⟨nd, rfl⟩⟩; refine ⟨_, rfl, ?_⟩; obtain ⟨C47_0, C47_1, C47_2⟩ := zc3_ BK330.out; obtain ⟨F47_0, F47_1, F47_2⟩ := zf3_ BK330.out; obtain ⟨C48_0, C48_1, C48_2, C48_3, C48_4, C48_5, C48_6, C48_7, C48_8⟩ := zc9_ BK318.out; obtain ⟨F48_0, F48_1, F48_2, F48_3, F48_4, F48_5, F48_6, F48_7, F48_8⟩ := zf9_ BK318.out) | (go_at_call 15; (with_reducible refine (prune_Skip.calls k2 _ _ l0 a1_0 a1_1 a1_2 a1_3 a1_4 a1_5 a1_6 a1_7 _ _ l1_8 _ _ l2 t337 _ ?side1 ?side2 ?side3 ?side4 ?side5 ?side6 A32.out).mono ?_); (case side1 => exact Kd.C_below HR0.out (by repeat (first | (with_reducible first | exact HB.out | apply below_alloc | apply pw_below_drewN | apply below_drew1 | refine below_set ?_ GE318.out | refine below_set ?_ GE330.out | refine below_set ?_ GE335.out) | exact HB.out))); (case side2 => exact HC0.out); (case side3 => exact Kd.C_below HR1_8.out (by repeat (first | (with_reducible first | exact HB.out | apply below_alloc | apply pw_below_drewN | apply below_drew1 | refine below_set ?_ GE318.out | refine below_set ?_ GE330.out | refine below_set ?_ GE335.out) | exact HB.out))); (case side4 => exact HC1_8.out); (case side5 => exact Kd.C_below HR2.out (by repeat (first | (with_reducible first | exact HB.out | apply below_alloc | apply pw_below_drewN | apply below_drew1 | refine below_set ?_ GE318.out | refine below_set ?_ GE330.out | refine below_set ?_ GE335.out) | exact HB.out))); (case side6 => exact HC2.out); rintro e w49 ⟨rfl, hb⟩; have n0_ := Aside0.mk (blk_below (g := gb318) (o := .cells #[.int .i64 a1_0, .string a1_1, .int .i64 a1_2, .bool a1_3, .int .i64 a1_4, .string a1_5, .int .i64 a1_6, .string a1_7, .slice A1_8 l1_8.length c1_8] 27 (0, 0)) (by (iterate 3 ((with_reducible repeat (first | refine blk_drewN ?_ _ | refine blk_drew ?_ | refine blk_alloc ?_ _)); refine blk_far ?_ NB318_335.out _)); (with_reducible repeat (first | refine blk_drewN ?_ _ | refine blk_drew ?_ | refine blk_alloc ?_ _)); exact BK318.out) hb); have n1_ := Aside0.mk (blk_below (g := gb330) (o := .cells #[.bool t326, .bool t327, .bool t328] 35 (0, 0)) (by (iterate 3 ((with_reducible repeat (first | refine blk_drewN ?_ _ | refine blk_drew ?_ | refine blk_alloc ?_ _)); refine blk_far ?_ NB330_335.out _)); (with_reducible repeat (first | refine blk_drewN ?_ _ | refine blk_drew ?_ | refine blk_alloc ?_ _)); exact BK330.out) hb); have n2_ := Aside0.mk (blk_below (g := gb335) (o := .cells #[.bool t331, .bool t332, .bool t333] 39 (0, 0)) (by (with_reducible repeat (first | refine blk_drewN ?_ _ | refine blk_drew ?_ | refine blk_alloc ?_ _)); apply blk_all3_; (with_reducible repeat (first | refine blk_drewN ?_ _ | refine blk_drew ?_ | refine blk_alloc ?_ _)); exact BK335.out) hb); have n3_ := bs_ HB hb; clear BK318; clear BK330; clear BK335; clear HB; have BK318 := n0_; have BK330 := n1_; have BK335 := n2_; have HB := n3_; clear n0_ n1_ n2_ n3_; (try clear hb); obtain ⟨C50_0, C50_1, C50_2⟩ := zc3_ BK335.out; obtain ⟨F50_0, F50_1, F50_2⟩ := zf3_ BK335.out) | (go_at_call 11; (with_reducible refine (firkinlaw21_live.calls k2  t338 _ A35.out).mono ?_); rintro e w51 ⟨rfl, hb⟩;  replace BK318 := bk_ BK318 hb; replace BK330 := bk_ BK330 hb; replace BK335 := bk_ BK335 hb; replace HB := bs_ HB hb; (try clear hb)))
             go_ret
             exact en_ HB
            ·rw [if_neg c34] at H
             have c34b0 : (t337 == (!t331)) = false := by simpa using c34
             (try (have c34b1 : decide (t337 = (!t331)) = false := by simpa using c34))
             (try (have c34b2 : (t337 == (!t331)) = false := by simpa using c34))
             (try (have c34b3 : ¬ (t337 = (!t331)) := by simpa using c34))
             clear c34
             obtain rfl := Option.some.inj H
             obtain ⟨C52_0, C52_1, C52_2, C52_3, C52_4, C52_5, C52_6, C52_7, C52_8⟩ := cz9_ BK318.out
             obtain ⟨F52_0, F52_1, F52_2, F52_3, F52_4, F52_5, F52_6, F52_7, F52_8⟩ := fz9_ BK318.out
             go_wp2_with (first | ((with_reducible refine gate_callee (f := 12) rfl ?_); refine gl_ (some 55) rfl Try.func12 #[.slice A0 l0.length c0, .agg #[.int .i64 a1_0, .string a1_1, .int .i64 a1_2, .bool a1_3, .int .i64 a1_4, .string a1_5, .int .i64 a1_6, .string a1_7, .slice A1_8 l1_8.length c1_8], .slice A2 l2.length c2] ?_; (with_reducible refine (prune_Ask.calls k2 _ _ l0 a1_0 a1_1 a1_2 a1_3 a1_4 a1_5 a1_6 a1_7 _ _ l1_8 _ _ l2 t326 t327 t328 t329 _ ?side1 ?side2 ?side3 ?side4 ?side5 ?side6 A25.out).mono ?_); (case side1 => repeat (first | exact (Kd.C_below HR0.out HB.out) | (with_reducible refine Kd.C_alloc ?_ _) | (with_reducible refine Kd.C_drewN ?_ _) | (with_reducible refine Kd.C_drew ?_))); (case side2 => exact HC0.out); (case side3 => repeat (first | exact (Kd.C_below HR1_8.out HB.out) | (with_reducible refine Kd.C_alloc ?_ _) | (with_reducible refine Kd.C_drewN ?_ _) | (with_reducible refine Kd.C_drew ?_))); (case side4 => exact HC1_8.out); (case side5 => repeat (first | exact (Kd.C_below HR2.out HB.out) | (with_reducible refine Kd.C_alloc ?_ _) | (with_reducible refine Kd.C_drewN ?_ _) | (with_reducible refine Kd.C_drew ?_))); (case side6 => exact HC2.out); rintro e w53 ⟨rfl, hb⟩; refine ⟨_, rfl, ?_⟩;  replace BK318 := bk_ BK318 hb; replace HB := bs_ HB hb; (try clear hb)) | ((with_reducible refine gate_dst (N := 8) rfl ?_); (try (refine gate_guard (by rfl) ?_; dsimp only)); refine bx_ (N := 8) (cs := #[.bool false, .bool false, .bool false]) (t := 35) ?_; intro gb330 hg w54 hbox hb; have BK330 := Aside0.mk (hbox); have GW330 := ge_ HB hg; have GE330 := ge_ HB hg; have NB318_330 := lt_ BK318 hg; have NB330_318 := gt_ BK318 hg; replace BK318 := bk_ BK318 hb; replace HB := bs_ HB hb; clear hb hbox hg; have hnb55 := NB330_318.out; have hnc55 := NB318_330.out; obtain ⟨C56_0, C56_1, C56_2⟩ := zc3_ BK330.out; obtain ⟨F56_0, F56_1, F56_2⟩ := zf3_ BK330.out; obtain ⟨C57_0, C57_1, C57_2, C57_3, C57_4, C57_5, C57_6, C57_7, C57_8⟩ := zc9_ BK318.out; obtain ⟨F57_0, F57_1, F57_2, F57_3, F57_4, F57_5, F57_6, F57_7, F57_8⟩ := zf9_ BK318.out) | ((with_reducible refine gate_callee (f := 13) rfl ?_); refine gl_ (some 62) rfl Try.func13 #[.slice A0 l0.length c0, .agg #[.int .i64 a1_0, .string a1_1, .int .i64 a1_2, .bool a1_3, .int .i64 a1_4, .string a1_5, .int .i64 a1_6, .string a1_7, .slice A1_8 l1_8.length c1_8], .slice A2 l2.length c2] ?_; (with_reducible refine (firkinref21_Ask.calls k2 _ _ l0 a1_0 a1_1 a1_2 a1_3 a1_4 a1_5 a1_6 a1_7 _ _ l1_8 _ _ l2 t331 t332 t333 t334 _ ?side1 ?side2 ?side3 ?side4 ?side5 ?side6 A26.out).mono ?_); (case side1 => exact Kd.C_below HR0.out (by repeat (first | (with_reducible first | exact HB.out | apply below_alloc | apply pw_below_drewN | apply below_drew1 | refine below_set ?_ GE318.out | refine below_set ?_ GE330.out) | exact HB.out))); (case side2 => exact HC0.out); (case side3 => exact Kd.C_below HR1_8.out (by repeat (first | (with_reducible first | exact HB.out | apply below_alloc | apply pw_below_drewN | apply below_drew1 | refine below_set ?_ GE318.out | refine below_set ?_ GE330.out) | exact HB.out))); (case side4 => exact HC1_8.out); (case side5 => exact Kd.C_below HR2.out (by repeat (first | (with_reducible first | exact HB.out | apply below_alloc | apply pw_below_drewN | apply below_drew1 | refine below_set ?_ GE318.out | refine below_set ?_ GE330.out) | exact HB.out))); (case side6 => exact HC2.out); rintro e w58 ⟨rfl, hb⟩; refine ⟨_, rfl, ?_⟩; have n0_ := Aside0.mk (blk_below (g := gb318) (o := .cells #[.int .i64 a1_0, .string a1_1, .int .i64 a1_2, .bool a1_3, .int .i64 a1_4, .string a1_5, .int .i64 a1_6, .string a1_7, .slice A1_8 l1_8.length c1_8] 27 (0, 0)) (by (iterate 3 ((with_reducible repeat (first | refine blk_drewN ?_ _ | refine blk_drew ?_ | refine blk_alloc ?_ _)); refine blk_far ?_ NB318_330.out _)); (with_reducible repeat (first | refine blk_drewN ?_ _ | refine blk_drew ?_ | refine blk_alloc ?_ _)); exact BK318.out) hb); have n1_ := Aside0.mk (blk_below (g := gb330) (o := .cells #[.bool t326, .bool t327, .bool t328] 35 (0, 0)) (by (with_reducible repeat (first | refine blk_drewN ?_ _ | refine blk_drew ?_ | refine blk_alloc ?_ _)); apply blk_all3_; (with_reducible repeat (first | refine blk_drewN ?_ _ | refine blk_drew ?_ | refine blk_alloc ?_ _)); exact BK330.out) hb); have n2_ := bs_ HB hb; clear BK318; clear BK330; clear HB; have BK318 := n0_; have BK330 := n1_; have HB := n2_; clear n0_ n1_ n2_; (try clear hb)) | ((with_reducible refine gate_dst (N := 10) rfl ?_); (try (refine gate_guard (by rfl) ?_; dsimp only)); refine bx_ (N := 10) (cs := #[.bool false, .bool false, .bool false]) (t := 39) ?_; intro gb335 hg w59 hbox hb; have BK335 := Aside0.mk (hbox); have GW335 := ge_ HB hg; have GE335 := ge_ HB hg; have NB318_335 := lt_ BK318 hg; have NB335_318 := gt_ BK318 hg; have NB330_335 := lt_ BK330 hg; have NB335_330 := gt_ BK330 hg; replace BK318 := bk_ BK318 hb; replace BK330 := bk_ BK330 hb; replace HB := bs_ HB hb; clear hb hbox hg; have hnb60 := NB335_318.out; have hnc60 := NB318_335.out; have hnb61 := NB335_330.out; have hnc61 := NB330_335.out; obtain ⟨C62_0, C62_1, C62_2⟩ := zc3_ BK335.out; obtain ⟨F62_0, F62_1, F62_2⟩ := zf3_ BK335.out) | ((with_reducible refine gate_callee (f := 14) rfl ?_); refine gl_ (some 66) rfl Try.func14 #[.int .i64 t329] ?_; (with_reducible refine (firkinlaw21_num.calls t329 t336 _ A27.out).mono ?_); rintro e w' ⟨rfl, ⟨nd, rfl⟩⟩; refine ⟨_, rfl, ?_⟩; obtain ⟨C63_0, C63_1, C63_2⟩ := zc3_ BK330.out; obtain ⟨F63_0, F63_1, F63_2⟩ := zf3_ BK330.out; obtain ⟨C64_0, C64_1, C64_2, C64_3, C64_4, C64_5, C64_6, C64_7, C64_8⟩ := zc9_ BK318.out; obtain ⟨F64_0, F64_1, F64_2, F64_3, F64_4, F64_5, F64_6, F64_7, F64_8⟩ := zf9_ BK318.out) | (go_at_call 15; (with_reducible refine (prune_Skip.calls k2 _ _ l0 a1_0 a1_1 a1_2 a1_3 a1_4 a1_5 a1_6 a1_7 _ _ l1_8 _ _ l2 t337 _ ?side1 ?side2 ?side3 ?side4 ?side5 ?side6 A32.out).mono ?_); (case side1 => exact Kd.C_below HR0.out (by repeat (first | (with_reducible first | exact HB.out | apply below_alloc | apply pw_below_drewN | apply below_drew1 | refine below_set ?_ GE318.out | refine below_set ?_ GE330.out | refine below_set ?_ GE335.out) | exact HB.out))); (case side2 => exact HC0.out); (case side3 => exact Kd.C_below HR1_8.out (by repeat (first | (with_reducible first | exact HB.out | apply below_alloc | apply pw_below_drewN | apply below_drew1 | refine below_set ?_ GE318.out | refine below_set ?_ GE330.out | refine below_set ?_ GE335.out) | exact HB.out))); (case side4 => exact HC1_8.out); (case side5 => exact Kd.C_below HR2.out (by repeat (first | (with_reducible first | exact HB.out | apply below_alloc | apply pw_below_drewN | apply below_drew1 | refine below_set ?_ GE318.out | refine below_set ?_ GE330.out | refine below_set ?_ GE335.out) | exact HB.out))); (case side6 => exact HC2.out); rintro e w65 ⟨rfl, hb⟩; have n0_ := Aside0.mk (blk_below (g := gb318) (o := .cells #[.int .i64 a1_0, .string a1_1, .int .i64 a1_2, .bool a1_3, .int .i64 a1_4, .string a1_5, .int .i64 a1_6, .string a1_7, .slice A1_8 l1_8.length c1_8] 27 (0, 0)) (by (iterate 3 ((with_reducible repeat (first | refine blk_drewN ?_ _ | refine blk_drew ?_ | refine blk_alloc ?_ _)); refine blk_far ?_ NB318_335.out _)); (with_reducible repeat (first | refine blk_drewN ?_ _ | refine blk_drew ?_ | refine blk_alloc ?_ _)); exact BK318.out) hb); have n1_ := Aside0.mk (blk_below (g := gb330) (o := .cells #[.bool t326, .bool t327, .bool t328] 35 (0, 0)) (by (iterate 3 ((with_reducible repeat (first | refine blk_drewN ?_ _ | refine blk_drew ?_ | refine blk_alloc ?_ _)); refine blk_far ?_ NB330_335.out _)); (with_reducible repeat (first | refine blk_drewN ?_ _ | refine blk_drew ?_ | refine blk_alloc ?_ _)); exact BK330.out) hb); have n2_ := Aside0.mk (blk_below (g := gb335) (o := .cells #[.bool t331, .bool t332, .bool t333] 39 (0, 0)) (by (with_reducible repeat (first | refine blk_drewN ?_ _ | refine blk_drew ?_ | refine blk_alloc ?_ _)); apply blk_all3_; (with_reducible repeat (first | refine blk_drewN ?_ _ | refine blk_drew ?_ | refine blk_alloc ?_ _)); exact BK335.out) hb); have n3_ := bs_ HB hb; clear BK318; clear BK330; clear BK335; clear HB; have BK318 := n0_; have BK330 := n1_; have BK335 := n2_; have HB := n3_; clear n0_ n1_ n2_ n3_; (try clear hb); obtain ⟨C66_0, C66_1, C66_2⟩ := zc3_ BK335.out; obtain ⟨F66_0, F66_1, F66_2⟩ := zf3_ BK335.out))
             go_ret
             exact en_ HB
           ·rw [if_neg c33] at H
            have c33b0 : (t334 == 0) = false := beq_eq_false_iff_ne.mpr c33
            have c33b1 : (t334 != 0) = true := bne_iff_ne.mpr c33
            by_cases c67 : (t337 == false) = true
            ·rw [if_pos c67] at H
             have c67b0 : (t337 == false) = true := c67
             (try (have c67b1 : decide (t337 = false) = true := by simpa using c67))
             (try (have c67b2 : (t337 == false) = true := by simpa using c67))
             clear c67
             replace H := Option.bind_eq_some_iff.mp H
             obtain ⟨t339, A680, H⟩ := H
             replace H : (some t339) = some r := H
             have A68 := Aside0.mk A680
             clear A680
             obtain rfl := Option.some.inj H
             obtain ⟨C69_0, C69_1, C69_2, C69_3, C69_4, C69_5, C69_6, C69_7, C69_8⟩ := cz9_ BK318.out
             obtain ⟨F69_0, F69_1, F69_2, F69_3, F69_4, F69_5, F69_6, F69_7, F69_8⟩ := fz9_ BK318.out
             go_wp2_with (first | ((with_reducible refine gate_callee (f := 12) rfl ?_); refine gl_ (some 55) rfl Try.func12 #[.slice A0 l0.length c0, .agg #[.int .i64 a1_0, .string a1_1, .int .i64 a1_2, .bool a1_3, .int .i64 a1_4, .string a1_5, .int .i64 a1_6, .string a1_7, .slice A1_8 l1_8.length c1_8], .slice A2 l2.length c2] ?_; (with_reducible refine (prune_Ask.calls k2 _ _ l0 a1_0 a1_1 a1_2 a1_3 a1_4 a1_5 a1_6 a1_7 _ _ l1_8 _ _ l2 t326 t327 t328 t329 _ ?side1 ?side2 ?side3 ?side4 ?side5 ?side6 A25.out).mono ?_); (case side1 => repeat (first | exact (Kd.C_below HR0.out HB.out) | (with_reducible refine Kd.C_alloc ?_ _) | (with_reducible refine Kd.C_drewN ?_ _) | (with_reducible refine Kd.C_drew ?_))); (case side2 => exact HC0.out); (case side3 => repeat (first | exact (Kd.C_below HR1_8.out HB.out) | (with_reducible refine Kd.C_alloc ?_ _) | (with_reducible refine Kd.C_drewN ?_ _) | (with_reducible refine Kd.C_drew ?_))); (case side4 => exact HC1_8.out); (case side5 => repeat (first | exact (Kd.C_below HR2.out HB.out) | (with_reducible refine Kd.C_alloc ?_ _) | (with_reducible refine Kd.C_drewN ?_ _) | (with_reducible refine Kd.C_drew ?_))); (case side6 => exact HC2.out); rintro e w70 ⟨rfl, hb⟩; refine ⟨_, rfl, ?_⟩;  replace BK318 := bk_ BK318 hb; replace HB := bs_ HB hb; (try clear hb)) | ((with_reducible refine gate_dst (N := 8) rfl ?_); (try (refine gate_guard (by rfl) ?_; dsimp only)); refine bx_ (N := 8) (cs := #[.bool false, .bool false, .bool false]) (t := 35) ?_; intro gb330 hg w71 hbox hb; have BK330 := Aside0.mk (hbox); have GW330 := ge_ HB hg; have GE330 := ge_ HB hg; have NB318_330 := lt_ BK318 hg; have NB330_318 := gt_ BK318 hg; replace BK318 := bk_ BK318 hb; replace HB := bs_ HB hb; clear hb hbox hg; have hnb72 := NB330_318.out; have hnc72 := NB318_330.out; obtain ⟨C73_0, C73_1, C73_2⟩ := zc3_ BK330.out; obtain ⟨F73_0, F73_1, F73_2⟩ := zf3_ BK330.out; obtain ⟨C74_0, C74_1, C74_2, C74_3, C74_4, C74_5, C74_6, C74_7, C74_8⟩ := zc9_ BK318.out; obtain ⟨F74_0, F74_1, F74_2, F74_3, F74_4, F74_5, F74_6, F74_7, F74_8⟩ := zf9_ BK318.out) | ((with_reducible refine gate_callee (f := 13) rfl ?_); refine gl_ (some 62) rfl Try.func13 #[.slice A0 l0.length c0, .agg #[.int .i64 a1_0, .string a1_1, .int .i64 a1_2, .bool a1_3, .int .i64 a1_4, .string a1_5, .int .i64 a1_6, .string a1_7, .slice A1_8 l1_8.length c1_8], .slice A2 l2.length c2] ?_; (with_reducible refine (firkinref21_Ask.calls k2 _ _ l0 a1_0 a1_1 a1_2 a1_3 a1_4 a1_5 a1_6 a1_7 _ _ l1_8 _ _ l2 t331 t332 t333 t334 _ ?side1 ?side2 ?side3 ?side4 ?side5 ?side6 A26.out).mono ?_); (case side1 => exact Kd.C_below HR0.out (by repeat (first | (with_reducible first | exact HB.out | apply below_alloc | apply pw_below_drewN | apply below_drew1 | refine below_set ?_ GE318.out | refine below_set ?_ GE330.out) | exact HB.out))); (case side2 => exact HC0.out); (case side3 => exact Kd.C_below HR1_8.out (by repeat (first | (with_reducible first | exact HB.out | apply below_alloc | apply pw_below_drewN | apply below_drew1 | refine below_set ?_ GE318.out | refine below_set ?_ GE330.out) | exact HB.out))); (case side4 => exact HC1_8.out); (case side5 => exact Kd.C_below HR2.out (by repeat (first | (with_reducible first | exact HB.out | apply below_alloc | apply pw_below_drewN | apply below_drew1 | refine below_set ?_ GE318.out | refine below_set ?_ GE330.out) | exact HB.out))); (case side6 => exact HC2.out); rintro e w75 ⟨rfl, hb⟩; refine ⟨_, rfl, ?_⟩; have n0_ := Aside0.mk (blk_below (g := gb318) (o := .cells #[.int .i64 a1_0, .string a1_1, .int .i64 a1_2, .bool a1_3, .int .i64 a1_4, .string a1_5, .int .i64 a1_6, .string a1_7, .slice A1_8 l1_8.length c1_8] 27 (0, 0)) (by (iterate 3 ((with_reducible repeat (first | refine blk_drewN ?_ _ | refine blk_drew ?_ | refine blk_alloc ?_ _)); refine blk_far ?_ NB318_330.out _)); (with_reducible repeat (first | refine blk_drewN ?_ _ | refine blk_drew ?_ | refine blk_alloc ?_ _)); exact BK318.out) hb); have n1_ := Aside0.mk (blk_below (g := gb330) (o := .cells #[.bool t326, .bool t327, .bool t328] 35 (0, 0)) (by (with_reducible repeat (first | refine blk_drewN ?_ _ | refine blk_drew ?_ | refine blk_alloc ?_ _)); apply blk_all3_; (with_reducible repeat (first | refine blk_drewN ?_ _ | refine blk_drew ?_ | refine blk_alloc ?_ _)); exact BK330.out) hb); have n2_ := bs_ HB hb; clear BK318; clear BK330; clear HB; have BK318 := n0_; have BK330 := n1_; have HB := n2_; clear n0_ n1_ n2_; (try clear hb)) | ((with_reducible refine gate_dst (N := 10) rfl ?_); (try (refine gate_guard (by rfl) ?_; dsimp only)); refine bx_ (N := 10) (cs := #[.bool false, .bool false, .bool false]) (t := 39) ?_; intro gb335 hg w76 hbox hb; have BK335 := Aside0.mk (hbox); have GW335 := ge_ HB hg; have GE335 := ge_ HB hg; have NB318_335 := lt_ BK318 hg; have NB335_318 := gt_ BK318 hg; have NB330_335 := lt_ BK330 hg; have NB335_330 := gt_ BK330 hg; replace BK318 := bk_ BK318 hb; replace BK330 := bk_ BK330 hb; replace HB := bs_ HB hb; clear hb hbox hg; have hnb77 := NB335_318.out; have hnc77 := NB318_335.out; have hnb78 := NB335_330.out; have hnc78 := NB330_335.out; obtain ⟨C79_0, C79_1, C79_2⟩ := zc3_ BK335.out; obtain ⟨F79_0, F79_1, F79_2⟩ := zf3_ BK335.out) | ((with_reducible refine gate_callee (f := 14) rfl ?_); refine gl_ (some 66) rfl Try.func14 #[.int .i64 t329] ?_; (with_reducible refine (firkinlaw21_num.calls t329 t336 _ A27.out).mono ?_); rintro e w' ⟨rfl, ⟨nd, rfl⟩⟩; refine ⟨_, rfl, ?_⟩; obtain ⟨C80_0, C80_1, C80_2⟩ := zc3_ BK330.out; obtain ⟨F80_0, F80_1, F80_2⟩ := zf3_ BK330.out; obtain ⟨C81_0, C81_1, C81_2, C81_3, C81_4, C81_5, C81_6, C81_7, C81_8⟩ := zc9_ BK318.out; obtain ⟨F81_0, F81_1, F81_2, F81_3, F81_4, F81_5, F81_6, F81_7, F81_8⟩ := zf9_ BK318.out) | (go_at_call 15; (with_reducible refine (prune_Skip.calls k2 _ _ l0 a1_0 a1_1 a1_2 a1_3 a1_4 a1_5 a1_6 a1_7 _ _ l1_8 _ _ l2 t337 _ ?side1 ?side2 ?side3 ?side4 ?side5 ?side6 A32.out).mono ?_); (case side1 => exact Kd.C_below HR0.out (by repeat (first | (with_reducible first | exact HB.out | apply below_alloc | apply pw_below_drewN | apply below_drew1 | refine below_set ?_ GE318.out | refine below_set ?_ GE330.out | refine below_set ?_ GE335.out) | exact HB.out))); (case side2 => exact HC0.out); (case side3 => exact Kd.C_below HR1_8.out (by repeat (first | (with_reducible first | exact HB.out | apply below_alloc | apply pw_below_drewN | apply below_drew1 | refine below_set ?_ GE318.out | refine below_set ?_ GE330.out | refine below_set ?_ GE335.out) | exact HB.out))); (case side4 => exact HC1_8.out); (case side5 => exact Kd.C_below HR2.out (by repeat (first | (with_reducible first | exact HB.out | apply below_alloc | apply pw_below_drewN | apply below_drew1 | refine below_set ?_ GE318.out | refine below_set ?_ GE330.out | refine below_set ?_ GE335.out) | exact HB.out))); (case side6 => exact HC2.out); rintro e w82 ⟨rfl, hb⟩; have n0_ := Aside0.mk (blk_below (g := gb318) (o := .cells #[.int .i64 a1_0, .string a1_1, .int .i64 a1_2, .bool a1_3, .int .i64 a1_4, .string a1_5, .int .i64 a1_6, .string a1_7, .slice A1_8 l1_8.length c1_8] 27 (0, 0)) (by (iterate 3 ((with_reducible repeat (first | refine blk_drewN ?_ _ | refine blk_drew ?_ | refine blk_alloc ?_ _)); refine blk_far ?_ NB318_335.out _)); (with_reducible repeat (first | refine blk_drewN ?_ _ | refine blk_drew ?_ | refine blk_alloc ?_ _)); exact BK318.out) hb); have n1_ := Aside0.mk (blk_below (g := gb330) (o := .cells #[.bool t326, .bool t327, .bool t328] 35 (0, 0)) (by (iterate 3 ((with_reducible repeat (first | refine blk_drewN ?_ _ | refine blk_drew ?_ | refine blk_alloc ?_ _)); refine blk_far ?_ NB330_335.out _)); (with_reducible repeat (first | refine blk_drewN ?_ _ | refine blk_drew ?_ | refine blk_alloc ?_ _)); exact BK330.out) hb); have n2_ := Aside0.mk (blk_below (g := gb335) (o := .cells #[.bool t331, .bool t332, .bool t333] 39 (0, 0)) (by (with_reducible repeat (first | refine blk_drewN ?_ _ | refine blk_drew ?_ | refine blk_alloc ?_ _)); apply blk_all3_; (with_reducible repeat (first | refine blk_drewN ?_ _ | refine blk_drew ?_ | refine blk_alloc ?_ _)); exact BK335.out) hb); have n3_ := bs_ HB hb; clear BK318; clear BK330; clear BK335; clear HB; have BK318 := n0_; have BK330 := n1_; have BK335 := n2_; have HB := n3_; clear n0_ n1_ n2_ n3_; (try clear hb)) | (go_at_call 11; (with_reducible refine (firkinlaw21_live.calls k2  t339 _ A68.out).mono ?_); rintro e w83 ⟨rfl, hb⟩;  replace BK318 := bk_ BK318 hb; replace BK330 := bk_ BK330 hb; replace BK335 := bk_ BK335 hb; replace HB := bs_ HB hb; (try clear hb)))
             go_ret
             exact en_ HB
            ·rw [if_neg c67] at H
             have c67b0 : (t337 == false) = false := by simpa using c67
             (try (have c67b1 : decide (t337 = false) = false := by simpa using c67))
             (try (have c67b2 : (t337 == false) = false := by simpa using c67))
             (try (have c67b3 : ¬ (t337 = false) := by simpa using c67))
             clear c67
             obtain rfl := Option.some.inj H
             obtain ⟨C84_0, C84_1, C84_2, C84_3, C84_4, C84_5, C84_6, C84_7, C84_8⟩ := cz9_ BK318.out
             obtain ⟨F84_0, F84_1, F84_2, F84_3, F84_4, F84_5, F84_6, F84_7, F84_8⟩ := fz9_ BK318.out
             go_wp2_with (first | ((with_reducible refine gate_callee (f := 12) rfl ?_); refine gl_ (some 55) rfl Try.func12 #[.slice A0 l0.length c0, .agg #[.int .i64 a1_0, .string a1_1, .int .i64 a1_2, .bool a1_3, .int .i64 a1_4, .string a1_5, .int .i64 a1_6, .string a1_7, .slice A1_8 l1_8.length c1_8], .slice A2 l2.length c2] ?_; (with_reducible refine (prune_Ask.calls k2 _ _ l0 a1_0 a1_1 a1_2 a1_3 a1_4 a1_5 a1_6 a1_7 _ _ l1_8 _ _ l2 t326 t327 t328 t329 _ ?side1 ?side2 ?side3 ?side4 ?side5 ?side6 A25.out).mono ?_); (case side1 => repeat (first | exact (Kd.C_below HR0.out HB.out) | (with_reducible refine Kd.C_alloc ?_ _) | (with_reducible refine Kd.C_drewN ?_ _) | (with_reducible refine Kd.C_drew ?_))); (case side2 => exact HC0.out); (case side3 => repeat (first | exact (Kd.C_below HR1_8.out HB.out) | (with_reducible refine Kd.C_alloc ?_ _) | (with_reducible refine Kd.C_drewN ?_ _) | (with_reducible refine Kd.C_drew ?_))); (case side4 => exact HC1_8.out); (case side5 => repeat (first | exact (Kd.C_below HR2.out HB.out) | (with_reducible refine Kd.C_alloc ?_ _) | (with_reducible refine Kd.C_drewN ?_ _) | (with_reducible refine Kd.C_drew ?_))); (case side6 => exact HC2.out); rintro e w85 ⟨rfl, hb⟩; refine ⟨_, rfl, ?_⟩;  replace BK318 := bk_ BK318 hb; replace HB := bs_ HB hb; (try clear hb)) | ((with_reducible refine gate_dst (N := 8) rfl ?_); (try (refine gate_guard (by rfl) ?_; dsimp only)); refine bx_ (N := 8) (cs := #[.bool false, .bool false, .bool false]) (t := 35) ?_; intro gb330 hg w86 hbox hb; have BK330 := Aside0.mk (hbox); have GW330 := ge_ HB hg; have GE330 := ge_ HB hg; have NB318_330 := lt_ BK318 hg; have NB330_318 := gt_ BK318 hg; replace BK318 := bk_ BK318 hb; replace HB := bs_ HB hb; clear hb hbox hg; have hnb87 := NB330_318.out; have hnc87 := NB318_330.out; obtain ⟨C88_0, C88_1, C88_2⟩ := zc3_ BK330.out; obtain ⟨F88_0, F88_1, F88_2⟩ := zf3_ BK330.out; obtain ⟨C89_0, C89_1, C89_2, C89_3, C89_4, C89_5, C89_6, C89_7, C89_8⟩ := zc9_ BK318.out; obtain ⟨F89_0, F89_1, F89_2, F89_3, F89_4, F89_5, F89_6, F89_7, F89_8⟩ := zf9_ BK318.out) | ((with_reducible refine gate_callee (f := 13) rfl ?_); refine gl_ (some 62) rfl Try.func13 #[.slice A0 l0.length c0, .agg #[.int .i64 a1_0, .string a1_1, .int .i64 a1_2, .bool a1_3, .int .i64 a1_4, .string a1_5, .int .i64 a1_6, .string a1_7, .slice A1_8 l1_8.length c1_8], .slice A2 l2.length c2] ?_; (with_reducible refine (firkinref21_Ask.calls k2 _ _ l0 a1_0 a1_1 a1_2 a1_3 a1_4 a1_5 a1_6 a1_7 _ _ l1_8 _ _ l2 t331 t332 t333 t334 _ ?side1 ?side2 ?side3 ?side4 ?side5 ?side6 A26.out).mono ?_); (case side1 => exact Kd.C_below HR0.out (by repeat (first | (with_reducible first | exact HB.out | apply below_alloc | apply pw_below_drewN | apply below_drew1 | refine below_set ?_ GE318.out | refine below_set ?_ GE330.out) | exact HB.out))); (case side2 => exact HC0.out); (case side3 => exact Kd.C_below HR1_8.out (by repeat (first | (with_reducible first | exact HB.out | apply below_alloc | apply pw_below_drewN | apply below_drew1 | refine below_set ?_ GE318.out | refine below_set ?_ GE330.out) | exact HB.out))); (case side4 => exact HC1_8.out); (case side5 => exact Kd.C_below HR2.out (by repeat (first | (with_reducible first | exact HB.out | apply below_alloc | apply pw_below_drewN | apply below_drew1 | refine below_set ?_ GE318.out | refine below_set ?_ GE330.out) | exact HB.out))); (case side6 => exact HC2.out); rintro e w90 ⟨rfl, hb⟩; refine ⟨_, rfl, ?_⟩; have n0_ := Aside0.mk (blk_below (g := gb318) (o := .cells #[.int .i64 a1_0, .string a1_1, .int .i64 a1_2, .bool a1_3, .int .i64 a1_4, .string a1_5, .int .i64 a1_6, .string a1_7, .slice A1_8 l1_8.length c1_8] 27 (0, 0)) (by (iterate 3 ((with_reducible repeat (first | refine blk_drewN ?_ _ | refine blk_drew ?_ | refine blk_alloc ?_ _)); refine blk_far ?_ NB318_330.out _)); (with_reducible repeat (first | refine blk_drewN ?_ _ | refine blk_drew ?_ | refine blk_alloc ?_ _)); exact BK318.out) hb); have n1_ := Aside0.mk (blk_below (g := gb330) (o := .cells #[.bool t326, .bool t327, .bool t328] 35 (0, 0)) (by (with_reducible repeat (first | refine blk_drewN ?_ _ | refine blk_drew ?_ | refine blk_alloc ?_ _)); apply blk_all3_; (with_reducible repeat (first | refine blk_drewN ?_ _ | refine blk_drew ?_ | refine blk_alloc ?_ _)); exact BK330.out) hb); have n2_ := bs_ HB hb; clear BK318; clear BK330; clear HB; have BK318 := n0_; have BK330 := n1_; have HB := n2_; clear n0_ n1_ n2_; (try clear hb)) | ((with_reducible refine gate_dst (N := 10) rfl ?_); (try (refine gate_guard (by rfl) ?_; dsimp only)); refine bx_ (N := 10) (cs := #[.bool false, .bool false, .bool false]) (t := 39) ?_; intro gb335 hg w91 hbox hb; have BK335 := Aside0.mk (hbox); have GW335 := ge_ HB hg; have GE335 := ge_ HB hg; have NB318_335 := lt_ BK318 hg; have NB335_318 := gt_ BK318 hg; have NB330_335 := lt_ BK330 hg; have NB335_330 := gt_ BK330 hg; replace BK318 := bk_ BK318 hb; replace BK330 := bk_ BK330 hb; replace HB := bs_ HB hb; clear hb hbox hg; have hnb92 := NB335_318.out; have hnc92 := NB318_335.out; have hnb93 := NB335_330.out; have hnc93 := NB330_335.out; obtain ⟨C94_0, C94_1, C94_2⟩ := zc3_ BK335.out; obtain ⟨F94_0, F94_1, F94_2⟩ := zf3_ BK335.out) | ((with_reducible refine gate_callee (f := 14) rfl ?_); refine gl_ (some 66) rfl Try.func14 #[.int .i64 t329] ?_; (with_reducible refine (firkinlaw21_num.calls t329 t336 _ A27.out).mono ?_); rintro e w' ⟨rfl, ⟨nd, rfl⟩⟩; refine ⟨_, rfl, ?_⟩; obtain ⟨C95_0, C95_1, C95_2⟩ := zc3_ BK330.out; obtain ⟨F95_0, F95_1, F95_2⟩ := zf3_ BK330.out; obtain ⟨C96_0, C96_1, C96_2, C96_3, C96_4, C96_5, C96_6, C96_7, C96_8⟩ := zc9_ BK318.out; obtain ⟨F96_0, F96_1, F96_2, F96_3, F96_4, F96_5, F96_6, F96_7, F96_8⟩ := zf9_ BK318.out) | (go_at_call 15; (with_reducible refine (prune_Skip.calls k2 _ _ l0 a1_0 a1_1 a1_2 a1_3 a1_4 a1_5 a1_6 a1_7 _ _ l1_8 _ _ l2 t337 _ ?side1 ?side2 ?side3 ?side4 ?side5 ?side6 A32.out).mono ?_); (case side1 => exact Kd.C_below HR0.out (by repeat (first | (with_reducible first | exact HB.out | apply below_alloc | apply pw_below_drewN | apply below_drew1 | refine below_set ?_ GE318.out | refine below_set ?_ GE330.out | refine below_set ?_ GE335.out) | exact HB.out))); (case side2 => exact HC0.out); (case side3 => exact Kd.C_below HR1_8.out (by repeat (first | (with_reducible first | exact HB.out | apply below_alloc | apply pw_below_drewN | apply below_drew1 | refine below_set ?_ GE318.out | refine below_set ?_ GE330.out | refine below_set ?_ GE335.out) | exact HB.out))); (case side4 => exact HC1_8.out); (case side5 => exact Kd.C_below HR2.out (by repeat (first | (with_reducible first | exact HB.out | apply below_alloc | apply pw_below_drewN | apply below_drew1 | refine below_set ?_ GE318.out | refine below_set ?_ GE330.out | refine below_set ?_ GE335.out) | exact HB.out))); (case side6 => exact HC2.out); rintro e w97 ⟨rfl, hb⟩; have n0_ := Aside0.mk (blk_below (g := gb318) (o := .cells #[.int .i64 a1_0, .string a1_1, .int .i64 a1_2, .bool a1_3, .int .i64 a1_4, .string a1_5, .int .i64 a1_6, .string a1_7, .slice A1_8 l1_8.length c1_8] 27 (0, 0)) (by (iterate 3 ((with_reducible repeat (first | refine blk_drewN ?_ _ | refine blk_drew ?_ | refine blk_alloc ?_ _)); refine blk_far ?_ NB318_335.out _)); (with_reducible repeat (first | refine blk_drewN ?_ _ | refine blk_drew ?_ | refine blk_alloc ?_ _)); exact BK318.out) hb); have n1_ := Aside0.mk (blk_below (g := gb330) (o := .cells #[.bool t326, .bool t327, .bool t328] 35 (0, 0)) (by (iterate 3 ((with_reducible repeat (first | refine blk_drewN ?_ _ | refine blk_drew ?_ | refine blk_alloc ?_ _)); refine blk_far ?_ NB330_335.out _)); (with_reducible repeat (first | refine blk_drewN ?_ _ | refine blk_drew ?_ | refine blk_alloc ?_ _)); exact BK330.out) hb); have n2_ := Aside0.mk (blk_below (g := gb335) (o := .cells #[.bool t331, .bool t332, .bool t333] 39 (0, 0)) (by (with_reducible repeat (first | refine blk_drewN ?_ _ | refine blk_drew ?_ | refine blk_alloc ?_ _)); apply blk_all3_; (with_reducible repeat (first | refine blk_drewN ?_ _ | refine blk_drew ?_ | refine blk_alloc ?_ _)); exact BK335.out) hb); have n3_ := bs_ HB hb; clear BK318; clear BK330; clear BK335; clear HB; have BK318 := n0_; have BK330 := n1_; have BK335 := n2_; have HB := n3_; clear n0_ n1_ n2_ n3_; (try clear hb)))
             go_ret
             exact en_ HB
          ·rw [if_neg c31] at H
           have c31b0 : (t328 == t333) = false := by simpa using c31
           (try (have c31b1 : decide (t328 = t333) = false := by simpa using c31))
           (try (have c31b2 : (t328 == t333) = false := by simpa using c31))
           (try (have c31b3 : ¬ (t328 = t333) := by simpa using c31))
           clear c31
           obtain rfl := Option.some.inj H
           obtain ⟨C98_0, C98_1, C98_2, C98_3, C98_4, C98_5, C98_6, C98_7, C98_8⟩ := cz9_ BK318.out
           obtain ⟨F98_0, F98_1, F98_2, F98_3, F98_4, F98_5, F98_6, F98_7, F98_8⟩ := fz9_ BK318.out
           go_wp2_with (first | ((with_reducible refine gate_callee (f := 12) rfl ?_); refine gl_ (some 55) rfl Try.func12 #[.slice A0 l0.length c0, .agg #[.int .i64 a1_0, .string a1_1, .int .i64 a1_2, .bool a1_3, .int .i64 a1_4, .string a1_5, .int .i64 a1_6, .string a1_7, .slice A1_8 l1_8.length c1_8], .slice A2 l2.length c2] ?_; (with_reducible refine (prune_Ask.calls k2 _ _ l0 a1_0 a1_1 a1_2 a1_3 a1_4 a1_5 a1_6 a1_7 _ _ l1_8 _ _ l2 t326 t327 t328 t329 _ ?side1 ?side2 ?side3 ?side4 ?side5 ?side6 A25.out).mono ?_); (case side1 => repeat (first | exact (Kd.C_below HR0.out HB.out) | (with_reducible refine Kd.C_alloc ?_ _) | (with_reducible refine Kd.C_drewN ?_ _) | (with_reducible refine Kd.C_drew ?_))); (case side2 => exact HC0.out); (case side3 => repeat (first | exact (Kd.C_below HR1_8.out HB.out) | (with_reducible refine Kd.C_alloc ?_ _) | (with_reducible refine Kd.C_drewN ?_ _) | (with_reducible refine Kd.C_drew ?_))); (case side4 => exact HC1_8.out); (case side5 => repeat (first | exact (Kd.C_below HR2.out HB.out) | (with_reducible refine Kd.C_alloc ?_ _) | (with_reducible refine Kd.C_drewN ?_ _) | (with_reducible refine Kd.C_drew ?_))); (case side6 => exact HC2.out); rintro e w99 ⟨rfl, hb⟩; refine ⟨_, rfl, ?_⟩;  replace BK318 := bk_ BK318 hb; replace HB := bs_ HB hb; (try clear hb)) | ((with_reducible refine gate_dst (N := 8) rfl ?_); (try (refine gate_guard (by rfl) ?_; dsimp only)); refine bx_ (N := 8) (cs := #[.bool false, .bool false, .bool false]) (t := 35) ?_; intro gb330 hg w100 hbox hb; have BK330 := Aside0.mk (hbox); have GW330 := ge_ HB hg; have GE330 := ge_ HB hg; have NB318_330 := lt_ BK318 hg; have NB330_318 := gt_ BK318 hg; replace BK318 := bk_ BK318 hb; replace HB := bs_ HB hb; clear hb hbox hg; have hnb101 := NB330_318.out; have hnc101 := NB318_330.out; obtain ⟨C102_0, C102_1, C102_2⟩ := zc3_ BK330.out; obtain ⟨F102_0, F102_1, F102_2⟩ := zf3_ BK330.out; obtain ⟨C103_0, C103_1, C103_2, C103_3, C103_4, C103_5, C103_6, C103_7, C103_8⟩ := zc9_ BK318.out; obtain ⟨F103_0, F103_1, F103_2, F103_3, F103_4, F103_5, F103_6, F103_7, F103_8⟩ := zf9_ BK318.out) | ((with_reducible refine gate_callee (f := 13) rfl ?_); refine gl_ (some 62) rfl Try.func13 #[.slice A0 l0.length c0, .agg #[.int .i64 a1_0, .string a1_1, .int .i64 a1_2, .bool a1_3, .int .i64 a1_4, .string a1_5, .int .i64 a1_6, .string a1_7, .slice A1_8 l1_8.length c1_8], .slice A2 l2.length c2] ?_; (with_reducible refine (firkinref21_Ask.calls k2 _ _ l0 a1_0 a1_1 a1_2 a1_3 a1_4 a1_5 a1_6 a1_7 _ _ l1_8 _ _ l2 t331 t332 t333 t334 _ ?side1 ?side2 ?side3 ?side4 ?side5 ?side6 A26.out).mono ?_); (case side1 => exact Kd.C_below HR0.out (by repeat (first | (with_reducible first | exact HB.out | apply below_alloc | apply pw_below_drewN | apply below_drew1 | refine below_set ?_ GE318.out | refine below_set ?_ GE330.out) | exact HB.out))); (case side2 => exact HC0.out); (case side3 => exact Kd.C_below HR1_8.out (by repeat (first | (with_reducible first | exact HB.out | apply below_alloc | apply pw_below_drewN | apply below_drew1 | refine below_set ?_ GE318.out | refine below_set ?_ GE330.out) | exact HB.out))); (case side4 => exact HC1_8.out); (case side5 => exact Kd.C_below HR2.out (by repeat (first | (with_reducible first | exact HB.out | apply below_alloc | apply pw_below_drewN | apply below_drew1 | refine below_set ?_ GE318.out | refine below_set ?_ GE330.out) | exact HB.out))); (case side6 => exact HC2.out); rintro e w104 ⟨rfl, hb⟩; refine ⟨_, rfl, ?_⟩; have n0_ := Aside0.mk (blk_below (g := gb318) (o := .cells #[.int .i64 a1_0, .string a1_1, .int .i64 a1_2, .bool a1_3, .int .i64 a1_4, .string a1_5, .int .i64 a1_6, .string a1_7, .slice A1_8 l1_8.length c1_8] 27 (0, 0)) (by (iterate 3 ((with_reducible repeat (first | refine blk_drewN ?_ _ | refine blk_drew ?_ | refine blk_alloc ?_ _)); refine blk_far ?_ NB318_330.out _)); (with_reducible repeat (first | refine blk_drewN ?_ _ | refine blk_drew ?_ | refine blk_alloc ?_ _)); exact BK318.out) hb); have n1_ := Aside0.mk (blk_below (g := gb330) (o := .cells #[.bool t326, .bool t327, .bool t328] 35 (0, 0)) (by (with_reducible repeat (first | refine blk_drewN ?_ _ | refine blk_drew ?_ | refine blk_alloc ?_ _)); apply blk_all3_; (with_reducible repeat (first | refine blk_drewN ?_ _ | refine blk_drew ?_ | refine blk_alloc ?_ _)); exact BK330.out) hb); have n2_ := bs_ HB hb; clear BK318; clear BK330; clear HB; have BK318 := n0_; have BK330 := n1_; have HB := n2_; clear n0_ n1_ n2_; (try clear hb)) | ((with_reducible refine gate_dst (N := 10) rfl ?_); (try (refine gate_guard (by rfl) ?_; dsimp only)); refine bx_ (N := 10) (cs := #[.bool false, .bool false, .bool false]) (t := 39) ?_; intro gb335 hg w105 hbox hb; have BK335 := Aside0.mk (hbox); have GW335 := ge_ HB hg; have GE335 := ge_ HB hg; have NB318_335 := lt_ BK318 hg; have NB335_318 := gt_ BK318 hg; have NB330_335 := lt_ BK330 hg; have NB335_330 := gt_ BK330 hg; replace BK318 := bk_ BK318 hb; replace BK330 := bk_ BK330 hb; replace HB := bs_ HB hb; clear hb hbox hg; have hnb106 := NB335_318.out; have hnc106 := NB318_335.out; have hnb107 := NB335_330.out; have hnc107 := NB330_335.out; obtain ⟨C108_0, C108_1, C108_2⟩ := zc3_ BK335.out; obtain ⟨F108_0, F108_1, F108_2⟩ := zf3_ BK335.out) | ((with_reducible refine gate_callee (f := 14) rfl ?_); refine gl_ (some 66) rfl Try.func14 #[.int .i64 t329] ?_; (with_reducible refine (firkinlaw21_num.calls t329 t336 _ A27.out).mono ?_); rintro e w' ⟨rfl, ⟨nd, rfl⟩⟩; refine ⟨_, rfl, ?_⟩; obtain ⟨C109_0, C109_1, C109_2⟩ := zc3_ BK330.out; obtain ⟨F109_0, F109_1, F109_2⟩ := zf3_ BK330.out))
           go_ret
           exact en_ HB
         ·rw [if_neg c30] at H
          have c30b0 : (t327 == t332) = false := by simpa using c30
          (try (have c30b1 : decide (t327 = t332) = false := by simpa using c30))
          (try (have c30b2 : (t327 == t332) = false := by simpa using c30))
          (try (have c30b3 : ¬ (t327 = t332) := by simpa using c30))
          clear c30
          obtain rfl := Option.some.inj H
          obtain ⟨C110_0, C110_1, C110_2, C110_3, C110_4, C110_5, C110_6, C110_7, C110_8⟩ := cz9_ BK318.out
          obtain ⟨F110_0, F110_1, F110_2, F110_3, F110_4, F110_5, F110_6, F110_7, F110_8⟩ := fz9_ BK318.out
          go_wp2_with (first | ((with_reducible refine gate_callee (f := 12) rfl ?_); refine gl_ (some 55) rfl Try.func12 #[.slice A0 l0.length c0, .agg #[.int .i64 a1_0, .string a1_1, .int .i64 a1_2, .bool a1_3, .int .i64 a1_4, .string a1_5, .int .i64 a1_6, .string a1_7, .slice A1_8 l1_8.length c1_8], .slice A2 l2.length c2] ?_; (with_reducible refine (prune_Ask.calls k2 _ _ l0 a1_0 a1_1 a1_2 a1_3 a1_4 a1_5 a1_6 a1_7 _ _ l1_8 _ _ l2 t326 t327 t328 t329 _ ?side1 ?side2 ?side3 ?side4 ?side5 ?side6 A25.out).mono ?_); (case side1 => repeat (first | exact (Kd.C_below HR0.out HB.out) | (with_reducible refine Kd.C_alloc ?_ _) | (with_reducible refine Kd.C_drewN ?_ _) | (with_reducible refine Kd.C_drew ?_))); (case side2 => exact HC0.out); (case side3 => repeat (first | exact (Kd.C_below HR1_8.out HB.out) | (with_reducible refine Kd.C_alloc ?_ _) | (with_reducible refine Kd.C_drewN ?_ _) | (with_reducible refine Kd.C_drew ?_))); (case side4 => exact HC1_8.out); (case side5 => repeat (first | exact (Kd.C_below HR2.out HB.out) | (with_reducible refine Kd.C_alloc ?_ _) | (with_reducible refine Kd.C_drewN ?_ _) | (with_reducible refine Kd.C_drew ?_))); (case side6 => exact HC2.out); rintro e w111 ⟨rfl, hb⟩; refine ⟨_, rfl, ?_⟩;  replace BK318 := bk_ BK318 hb; replace HB := bs_ HB hb; (try clear hb)) | ((with_reducible refine gate_dst (N := 8) rfl ?_); (try (refine gate_guard (by rfl) ?_; dsimp only)); refine bx_ (N := 8) (cs := #[.bool false, .bool false, .bool false]) (t := 35) ?_; intro gb330 hg w112 hbox hb; have BK330 := Aside0.mk (hbox); have GW330 := ge_ HB hg; have GE330 := ge_ HB hg; have NB318_330 := lt_ BK318 hg; have NB330_318 := gt_ BK318 hg; replace BK318 := bk_ BK318 hb; replace HB := bs_ HB hb; clear hb hbox hg; have hnb113 := NB330_318.out; have hnc113 := NB318_330.out; obtain ⟨C114_0, C114_1, C114_2⟩ := zc3_ BK330.out; obtain ⟨F114_0, F114_1, F114_2⟩ := zf3_ BK330.out; obtain ⟨C115_0, C115_1, C115_2, C115_3, C115_4, C115_5, C115_6, C115_7, C115_8⟩ := zc9_ BK318.out; obtain ⟨F115_0, F115_1, F115_2, F115_3, F115_4, F115_5, F115_6, F115_7, F115_8⟩ := zf9_ BK318.out) | ((with_reducible refine gate_callee (f := 13) rfl ?_); refine gl_ (some 62) rfl Try.func13 #[.slice A0 l0.length c0, .agg #[.int .i64 a1_0, .string a1_1, .int .i64 a1_2, .bool a1_3, .int .i64 a1_4, .string a1_5, .int .i64 a1_6, .string a1_7, .slice A1_8 l1_8.length c1_8], .slice A2 l2.length c2] ?_; (with_reducible refine (firkinref21_Ask.calls k2 _ _ l0 a1_0 a1_1 a1_2 a1_3 a1_4 a1_5 a1_6 a1_7 _ _ l1_8 _ _ l2 t331 t332 t333 t334 _ ?side1 ?side2 ?side3 ?side4 ?side5 ?side6 A26.out).mono ?_); (case side1 => exact Kd.C_below HR0.out (by repeat (first | (with_reducible first | exact HB.out | apply below_alloc | apply pw_below_drewN | apply below_drew1 | refine below_set ?_ GE318.out | refine below_set ?_ GE330.out) | exact HB.out))); (case side2 => exact HC0.out); (case side3 => exact Kd.C_below HR1_8.out (by repeat (first | (with_reducible first | exact HB.out | apply below_alloc | apply pw_below_drewN | apply below_drew1 | refine below_set ?_ GE318.out | refine below_set ?_ GE330.out) | exact HB.out))); (case side4 => exact HC1_8.out); (case side5 => exact Kd.C_below HR2.out (by repeat (first | (with_reducible first | exact HB.out | apply below_alloc | apply pw_below_drewN | apply below_drew1 | refine below_set ?_ GE318.out | refine below_set ?_ GE330.out) | exact HB.out))); (case side6 => exact HC2.out); rintro e w116 ⟨rfl, hb⟩; refine ⟨_, rfl, ?_⟩; have n0_ := Aside0.mk (blk_below (g := gb318) (o := .cells #[.int .i64 a1_0, .string a1_1, .int .i64 a1_2, .bool a1_3, .int .i64 a1_4, .string a1_5, .int .i64 a1_6, .string a1_7, .slice A1_8 l1_8.length c1_8] 27 (0, 0)) (by (iterate 3 ((with_reducible repeat (first | refine blk_drewN ?_ _ | refine blk_drew ?_ | refine blk_alloc ?_ _)); refine blk_far ?_ NB318_330.out _)); (with_reducible repeat (first | refine blk_drewN ?_ _ | refine blk_drew ?_ | refine blk_alloc ?_ _)); exact BK318.out) hb); have n1_ := Aside0.mk (blk_below (g := gb330) (o := .cells #[.bool t326, .bool t327, .bool t328] 35 (0, 0)) (by (with_reducible repeat (first | refine blk_drewN ?_ _ | refine blk_drew ?_ | refine blk_alloc ?_ _)); apply blk_all3_; (with_reducible repeat (first | refine blk_drewN ?_ _ | refine blk_drew ?_ | refine blk_alloc ?_ _)); exact BK330.out) hb); have n2_ := bs_ HB hb; clear BK318; clear BK330; clear HB; have BK318 := n0_; have BK330 := n1_; have HB := n2_; clear n0_ n1_ n2_; (try clear hb)) | ((with_reducible refine gate_dst (N := 10) rfl ?_); (try (refine gate_guard (by rfl) ?_; dsimp only)); refine bx_ (N := 10) (cs := #[.bool false, .bool false, .bool false]) (t := 39) ?_; intro gb335 hg w117 hbox hb; have BK335 := Aside0.mk (hbox); have GW335 := ge_ HB hg; have GE335 := ge_ HB hg; have NB318_335 := lt_ BK318 hg; have NB335_318 := gt_ BK318 hg; have NB330_335 := lt_ BK330 hg; have NB335_330 := gt_ BK330 hg; replace BK318 := bk_ BK318 hb; replace BK330 := bk_ BK330 hb; replace HB := bs_ HB hb; clear hb hbox hg; have hnb118 := NB335_318.out; have hnc118 := NB318_335.out; have hnb119 := NB335_330.out; have hnc119 := NB330_335.out; obtain ⟨C120_0, C120_1, C120_2⟩ := zc3_ BK335.out; obtain ⟨F120_0, F120_1, F120_2⟩ := zf3_ BK335.out) | ((with_reducible refine gate_callee (f := 14) rfl ?_); refine gl_ (some 66) rfl Try.func14 #[.int .i64 t329] ?_; (with_reducible refine (firkinlaw21_num.calls t329 t336 _ A27.out).mono ?_); rintro e w' ⟨rfl, ⟨nd, rfl⟩⟩; refine ⟨_, rfl, ?_⟩; obtain ⟨C121_0, C121_1, C121_2⟩ := zc3_ BK330.out; obtain ⟨F121_0, F121_1, F121_2⟩ := zf3_ BK330.out))
          go_ret
          exact en_ HB
        ·rw [if_neg c29] at H
         have c29b0 : (t326 == t331) = false := by simpa using c29
         (try (have c29b1 : decide (t326 = t331) = false := by simpa using c29))
         (try (have c29b2 : (t326 == t331) = false := by simpa using c29))
         (try (have c29b3 : ¬ (t326 = t331) := by simpa using c29))
         clear c29
         obtain rfl := Option.some.inj H
         obtain ⟨C122_0, C122_1, C122_2, C122_3, C122_4, C122_5, C122_6, C122_7, C122_8⟩ := cz9_ BK318.out
         obtain ⟨F122_0, F122_1, F122_2, F122_3, F122_4, F122_5, F122_6, F122_7, F122_8⟩ := fz9_ BK318.out
         go_wp2_with (first | ((with_reducible refine gate_callee (f := 12) rfl ?_); refine gl_ (some 55) rfl Try.func12 #[.slice A0 l0.length c0, .agg #[.int .i64 a1_0, .string a1_1, .int .i64 a1_2, .bool a1_3, .int .i64 a1_4, .string a1_5, .int .i64 a1_6, .string a1_7, .slice A1_8 l1_8.length c1_8], .slice A2 l2.length c2] ?_; (with_reducible refine (prune_Ask.calls k2 _ _ l0 a1_0 a1_1 a1_2 a1_3 a1_4 a1_5 a1_6 a1_7 _ _ l1_8 _ _ l2 t326 t327 t328 t329 _ ?side1 ?side2 ?side3 ?side4 ?side5 ?side6 A25.out).mono ?_); (case side1 => repeat (first | exact (Kd.C_below HR0.out HB.out) | (with_reducible refine Kd.C_alloc ?_ _) | (with_reducible refine Kd.C_drewN ?_ _) | (with_reducible refine Kd.C_drew ?_))); (case side2 => exact HC0.out); (case side3 => repeat (first | exact (Kd.C_below HR1_8.out HB.out) | (with_reducible refine Kd.C_alloc ?_ _) | (with_reducible refine Kd.C_drewN ?_ _) | (with_reducible refine Kd.C_drew ?_))); (case side4 => exact HC1_8.out); (case side5 => repeat (first | exact (Kd.C_below HR2.out HB.out) | (with_reducible refine Kd.C_alloc ?_ _) | (with_reducible refine Kd.C_drewN ?_ _) | (with_reducible refine Kd.C_drew ?_))); (case side6 => exact HC2.out); rintro e w123 ⟨rfl, hb⟩; refine ⟨_, rfl, ?_⟩;  replace BK318 := bk_ BK318 hb; replace HB := bs_ HB hb; (try clear hb)) | ((with_reducible refine gate_dst (N := 8) rfl ?_); (try (refine gate_guard (by rfl) ?_; dsimp only)); refine bx_ (N := 8) (cs := #[.bool false, .bool false, .bool false]) (t := 35) ?_; intro gb330 hg w124 hbox hb; have BK330 := Aside0.mk (hbox); have GW330 := ge_ HB hg; have GE330 := ge_ HB hg; have NB318_330 := lt_ BK318 hg; have NB330_318 := gt_ BK318 hg; replace BK318 := bk_ BK318 hb; replace HB := bs_ HB hb; clear hb hbox hg; have hnb125 := NB330_318.out; have hnc125 := NB318_330.out; obtain ⟨C126_0, C126_1, C126_2⟩ := zc3_ BK330.out; obtain ⟨F126_0, F126_1, F126_2⟩ := zf3_ BK330.out; obtain ⟨C127_0, C127_1, C127_2, C127_3, C127_4, C127_5, C127_6, C127_7, C127_8⟩ := zc9_ BK318.out; obtain ⟨F127_0, F127_1, F127_2, F127_3, F127_4, F127_5, F127_6, F127_7, F127_8⟩ := zf9_ BK318.out) | ((with_reducible refine gate_callee (f := 13) rfl ?_); refine gl_ (some 62) rfl Try.func13 #[.slice A0 l0.length c0, .agg #[.int .i64 a1_0, .string a1_1, .int .i64 a1_2, .bool a1_3, .int .i64 a1_4, .string a1_5, .int .i64 a1_6, .string a1_7, .slice A1_8 l1_8.length c1_8], .slice A2 l2.length c2] ?_; (with_reducible refine (firkinref21_Ask.calls k2 _ _ l0 a1_0 a1_1 a1_2 a1_3 a1_4 a1_5 a1_6 a1_7 _ _ l1_8 _ _ l2 t331 t332 t333 t334 _ ?side1 ?side2 ?side3 ?side4 ?side5 ?side6 A26.out).mono ?_); (case side1 => exact Kd.C_below HR0.out (by repeat (first | (with_reducible first | exact HB.out | apply below_alloc | apply pw_below_drewN | apply below_drew1 | refine below_set ?_ GE318.out | refine below_set ?_ GE330.out) | exact HB.out))); (case side2 => exact HC0.out); (case side3 => exact Kd.C_below HR1_8.out (by repeat (first | (with_reducible first | exact HB.out | apply below_alloc | apply pw_below_drewN | apply below_drew1 | refine below_set ?_ GE318.out | refine below_set ?_ GE330.out) | exact HB.out))); (case side4 => exact HC1_8.out); (case side5 => exact Kd.C_below HR2.out (by repeat (first | (with_reducible first | exact HB.out | apply below_alloc | apply pw_below_drewN | apply below_drew1 | refine below_set ?_ GE318.out | refine below_set ?_ GE330.out) | exact HB.out))); (case side6 => exact HC2.out); rintro e w128 ⟨rfl, hb⟩; refine ⟨_, rfl, ?_⟩; have n0_ := Aside0.mk (blk_below (g := gb318) (o := .cells #[.int .i64 a1_0, .string a1_1, .int .i64 a1_2, .bool a1_3, .int .i64 a1_4, .string a1_5, .int .i64 a1_6, .string a1_7, .slice A1_8 l1_8.length c1_8] 27 (0, 0)) (by (iterate 3 ((with_reducible repeat (first | refine blk_drewN ?_ _ | refine blk_drew ?_ | refine blk_alloc ?_ _)); refine blk_far ?_ NB318_330.out _)); (with_reducible repeat (first | refine blk_drewN ?_ _ | refine blk_drew ?_ | refine blk_alloc ?_ _)); exact BK318.out) hb); have n1_ := Aside0.mk (blk_below (g := gb330) (o := .cells #[.bool t326, .bool t327, .bool t328] 35 (0, 0)) (by (with_reducible repeat (first | refine blk_drewN ?_ _ | refine blk_drew ?_ | refine blk_alloc ?_ _)); apply blk_all3_; (with_reducible repeat (first | refine blk_drewN ?_ _ | refine blk_drew ?_ | refine blk_alloc ?_ _)); exact BK330.out) hb); have n2_ := bs_ HB hb; clear BK318; clear BK330; clear HB; have BK318 := n0_; have BK330 := n1_; have HB := n2_; clear n0_ n1_ n2_; (try clear hb)) | ((with_reducible refine gate_dst (N := 10) rfl ?_); (try (refine gate_guard (by rfl) ?_; dsimp only)); refine bx_ (N := 10) (cs := #[.bool false, .bool false, .bool false]) (t := 39) ?_; intro gb335 hg w129 hbox hb; have BK335 := Aside0.mk (hbox); have GW335 := ge_ HB hg; have GE335 := ge_ HB hg; have NB318_335 := lt_ BK318 hg; have NB335_318 := gt_ BK318 hg; have NB330_335 := lt_ BK330 hg; have NB335_330 := gt_ BK330 hg; replace BK318 := bk_ BK318 hb; replace BK330 := bk_ BK330 hb; replace HB := bs_ HB hb; clear hb hbox hg; have hnb130 := NB335_318.out; have hnc130 := NB318_335.out; have hnb131 := NB335_330.out; have hnc131 := NB330_335.out; obtain ⟨C132_0, C132_1, C132_2⟩ := zc3_ BK335.out; obtain ⟨F132_0, F132_1, F132_2⟩ := zf3_ BK335.out) | ((with_reducible refine gate_callee (f := 14) rfl ?_); refine gl_ (some 66) rfl Try.func14 #[.int .i64 t329] ?_; (with_reducible refine (firkinlaw21_num.calls t329 t336 _ A27.out).mono ?_); rintro e w' ⟨rfl, ⟨nd, rfl⟩⟩; refine ⟨_, rfl, ?_⟩; obtain ⟨C133_0, C133_1, C133_2⟩ := zc3_ BK330.out; obtain ⟨F133_0, F133_1, F133_2⟩ := zf3_ BK330.out))
         go_ret
         exact en_ HB
       ·rw [if_neg c28] at H
        have c28b0 : (t336 == t334) = false := beq_eq_false_iff_ne.mpr c28
        have c28b1 : (t336 != t334) = true := bne_iff_ne.mpr c28
        obtain rfl := Option.some.inj H
        obtain ⟨C134_0, C134_1, C134_2, C134_3, C134_4, C134_5, C134_6, C134_7, C134_8⟩ := cz9_ BK318.out
        obtain ⟨F134_0, F134_1, F134_2, F134_3, F134_4, F134_5, F134_6, F134_7, F134_8⟩ := fz9_ BK318.out
        go_wp2_with (first | ((with_reducible refine gate_callee (f := 12) rfl ?_); refine gl_ (some 55) rfl Try.func12 #[.slice A0 l0.length c0, .agg #[.int .i64 a1_0, .string a1_1, .int .i64 a1_2, .bool a1_3, .int .i64 a1_4, .string a1_5, .int .i64 a1_6, .string a1_7, .slice A1_8 l1_8.length c1_8], .slice A2 l2.length c2] ?_; (with_reducible refine (prune_Ask.calls k2 _ _ l0 a1_0 a1_1 a1_2 a1_3 a1_4 a1_5 a1_6 a1_7 _ _ l1_8 _ _ l2 t326 t327 t328 t329 _ ?side1 ?side2 ?side3 ?side4 ?side5 ?side6 A25.out).mono ?_); (case side1 => repeat (first | exact (Kd.C_below HR0.out HB.out) | (with_reducible refine Kd.C_alloc ?_ _) | (with_reducible refine Kd.C_drewN ?_ _) | (with_reducible refine Kd.C_drew ?_))); (case side2 => exact HC0.out); (case side3 => repeat (first | exact (Kd.C_below HR1_8.out HB.out) | (with_reducible refine Kd.C_alloc ?_ _) | (with_reducible refine Kd.C_drewN ?_ _) | (with_reducible refine Kd.C_drew ?_))); (case side4 => exact HC1_8.out); (case side5 => repeat (first | exact (Kd.C_below HR2.out HB.out) | (with_reducible refine Kd.C_alloc ?_ _) | (with_reducible refine Kd.C_drewN ?_ _) | (with_reducible refine Kd.C_drew ?_))); (case side6 => exact HC2.out); rintro e w135 ⟨rfl, hb⟩; refine ⟨_, rfl, ?_⟩;  replace BK318 := bk_ BK318 hb; replace HB := bs_ HB hb; (try clear hb)) | ((with_reducible refine gate_dst (N := 8) rfl ?_); (try (refine gate_guard (by rfl) ?_; dsimp only)); refine bx_ (N := 8) (cs := #[.bool false, .bool false, .bool false]) (t := 35) ?_; intro gb330 hg w136 hbox hb; have BK330 := Aside0.mk (hbox); have GW330 := ge_ HB hg; have GE330 := ge_ HB hg; have NB318_330 := lt_ BK318 hg; have NB330_318 := gt_ BK318 hg; replace BK318 := bk_ BK318 hb; replace HB := bs_ HB hb; clear hb hbox hg; have hnb137 := NB330_318.out; have hnc137 := NB318_330.out; obtain ⟨C138_0, C138_1, C138_2⟩ := zc3_ BK330.out; obtain ⟨F138_0, F138_1, F138_2⟩ := zf3_ BK330.out; obtain ⟨C139_0, C139_1, C139_2, C139_3, C139_4, C139_5, C139_6, C139_7, C139_8⟩ := zc9_ BK318.out; obtain ⟨F139_0, F139_1, F139_2, F139_3, F139_4, F139_5, F139_6, F139_7, F139_8⟩ := zf9_ BK318.out) | ((with_reducible refine gate_callee (f := 13) rfl ?_); refine gl_ (some 62) rfl Try.func13 #[.slice A0 l0.length c0, .agg #[.int .i64 a1_0, .string a1_1, .int .i64 a1_2, .bool a1_3, .int .i64 a1_4, .string a1_5, .int .i64 a1_6, .string a1_7, .slice A1_8 l1_8.length c1_8], .slice A2 l2.length c2] ?_; (with_reducible refine (firkinref21_Ask.calls k2 _ _ l0 a1_0 a1_1 a1_2 a1_3 a1_4 a1_5 a1_6 a1_7 _ _ l1_8 _ _ l2 t331 t332 t333 t334 _ ?side1 ?side2 ?side3 ?side4 ?side5 ?side6 A26.out).mono ?_); (case side1 => exact Kd.C_below HR0.out (by repeat (first | (with_reducible first | exact HB.out | apply below_alloc | apply pw_below_drewN | apply below_drew1 | refine below_set ?_ GE318.out | refine below_set ?_ GE330.out) | exact HB.out))); (case side2 => exact HC0.out); (case side3 => exact Kd.C_below HR1_8.out (by repeat (first | (with_reducible first | exact HB.out | apply below_alloc | apply pw_below_drewN | apply below_drew1 | refine below_set ?_ GE318.out | refine below_set ?_ GE330.out) | exact HB.out))); (case side4 => exact HC1_8.out); (case side5 => exact Kd.C_below HR2.out (by repeat (first | (with_reducible first | exact HB.out | apply below_alloc | apply pw_below_drewN | apply below_drew1 | refine below_set ?_ GE318.out | refine below_set ?_ GE330.out) | exact HB.out))); (case side6 => exact HC2.out); rintro e w140 ⟨rfl, hb⟩; refine ⟨_, rfl, ?_⟩; have n0_ := Aside0.mk (blk_below (g := gb318) (o := .cells #[.int .i64 a1_0, .string a1_1, .int .i64 a1_2, .bool a1_3, .int .i64 a1_4, .string a1_5, .int .i64 a1_6, .string a1_7, .slice A1_8 l1_8.length c1_8] 27 (0, 0)) (by (iterate 3 ((with_reducible repeat (first | refine blk_drewN ?_ _ | refine blk_drew ?_ | refine blk_alloc ?_ _)); refine blk_far ?_ NB318_330.out _)); (with_reducible repeat (first | refine blk_drewN ?_ _ | refine blk_drew ?_ | refine blk_alloc ?_ _)); exact BK318.out) hb); have n1_ := Aside0.mk (blk_below (g := gb330) (o := .cells #[.bool t326, .bool t327, .bool t328] 35 (0, 0)) (by (with_reducible repeat (first | refine blk_drewN ?_ _ | refine blk_drew ?_ | refine blk_alloc ?_ _)); apply blk_all3_; (with_reducible repeat (first | refine blk_drewN ?_ _ | refine blk_drew ?_ | refine blk_alloc ?_ _)); exact BK330.out) hb); have n2_ := bs_ HB hb; clear BK318; clear BK330; clear HB; have BK318 := n0_; have BK330 := n1_; have HB := n2_; clear n0_ n1_ n2_; (try clear hb)) | ((with_reducible refine gate_dst (N := 10) rfl ?_); (try (refine gate_guard (by rfl) ?_; dsimp only)); refine bx_ (N := 10) (cs := #[.bool false, .bool false, .bool false]) (t := 39) ?_; intro gb335 hg w141 hbox hb; have BK335 := Aside0.mk (hbox); have GW335 := ge_ HB hg; have GE335 := ge_ HB hg; have NB318_335 := lt_ BK318 hg; have NB335_318 := gt_ BK318 hg; have NB330_335 := lt_ BK330 hg; have NB335_330 := gt_ BK330 hg; replace BK318 := bk_ BK318 hb; replace BK330 := bk_ BK330 hb; replace HB := bs_ HB hb; clear hb hbox hg; have hnb142 := NB335_318.out; have hnc142 := NB318_335.out; have hnb143 := NB335_330.out; have hnc143 := NB330_335.out; obtain ⟨C144_0, C144_1, C144_2⟩ := zc3_ BK335.out; obtain ⟨F144_0, F144_1, F144_2⟩ := zf3_ BK335.out) | ((with_reducible refine gate_callee (f := 14) rfl ?_); refine gl_ (some 66) rfl Try.func14 #[.int .i64 t329] ?_; (with_reducible refine (firkinlaw21_num.calls t329 t336 _ A27.out).mono ?_); rintro e w' ⟨rfl, ⟨nd, rfl⟩⟩; refine ⟨_, rfl, ?_⟩))
        go_ret
        exact en_ HB
end Go.Proofs.Ytdedmhmomoejkaa.X
namespace Go.Proofs.Ytdedmhmomoejkaa.X
open Go.RowKit Go.Proofs.YtdedmhmomoejkaaW.PrintWords Go.Proofs.YtdedmhmomoejkaaW.PrintLast
set_option linter.unusedVariables false
set_option linter.unusedSimpArgs false
def okFrom (l : List S64) (zs : List S33) : Nat → Nat → Bool
  | 0, _ => true
  | n + 1, i => zmB (rd_T64 l (i : Int)).f1 (rd_T33 zs (i : Int)).f0 (rd_T33 zs (i : Int)).f1 (rd_T33 zs (i : Int)).f2.f0 (rd_T33 zs (i : Int)).f2.f1 (rd_T33 zs (i : Int)).f2.f2 (rd_T33 zs (i : Int)).f3.f0 (rd_T33 zs (i : Int)).f3.f1 (rd_T33 zs (i : Int)).f3.f2 && okFrom l zs n (i + 1)
def endR (b : Bool) (t : Bool × Bool × Bool) : Bool × Bool × Bool × Int := if b = true then (t.1, t.2.1, t.2.2, 0) else (false, false, false, 1)
def askE (l : List S64) (zs : List S33) (x : S27) : Bool × Bool × Bool × Int :=
  if fitsE l x = 0 then (if zs.length = l.length then endR (okFrom l zs zs.length 0) (askR l zs 6 x) else (false, false, false, 1)) else (false, false, false, fitsE l x)
theorem loopA (l : List S64) (zs : List S33) (x : S27) (hz : zs.length = l.length) (hzl : zs.length ≤ 9223372036854775806) (t : Bool × Bool × Bool) (h : TotP (fun r => r = t) (fun k => prune_asker_ask.f k l zs x.f0 x.f1 x.f2 x.f3.f0 x.f3.f1 x.f3.f2 x.f4 x.f5 x.f6)) :
    ∀ (n i : Nat), i + n = zs.length → TotP (fun r => r = endR (okFrom l zs n i) t) (fun k => prune_Ask.l0 k l zs zs (zs.length : Int) (i : Int) x.f0 x.f1 x.f2 x.f3.f0 x.f3.f1 x.f3.f2 x.f4 x.f5 x.f6) := by
  intro n
  induction n with
  | zero =>
    intro i hi
    refine TotP.succ (fun k => by simp only [prune_Ask.l0]; rfl) ?_
    refine TotP.ite (fun h' => absurd h' (by omega)) (fun _ => ?_)
    exact TotP.bind h (fun r hr => TotP.some_ (by rw [hr]; rfl))
  | succ n ih =>
    intro i hi
    refine TotP.succ (fun k => by simp only [prune_Ask.l0]; rfl) ?_
    refine TotP.ite (fun _ => ?_) (fun h' => absurd (by omega) h')
    refine TotP.ite (fun _ => ?_) (fun h' => absurd (by omega) h')
    refine TotP.ite (fun _ => ?_) (fun h' => absurd (by omega) h')
    refine TotP.ite (fun _ => ?_) (fun h' => absurd (by omega) h')
    refine TotP.bind (zm _ _ _ _ _ _ _ _ _) (fun b hb => ?_)
    refine TotP.ite (fun g => ?_) (fun g => TotP.some_ ?_)
    · rw [wrap_in (by omega) (by omega), show (i : Int) + 1 = ((i + 1 : Nat) : Int) by omega]
      refine (ih (i + 1) (by omega)).weak (fun r hr => ?_)
      rw [hr, okFrom, ← hb, g, Bool.true_and]
    · rw [okFrom, ← hb, Bool.eq_false_iff.2 g]; rfl
theorem loopB (l : List S64) (zs : List S33) (x : S27) (hz : zs.length = l.length) (hzl : zs.length ≤ 9223372036854775806) (t : Bool × Bool × Bool) (h : firkinref21_ask.f l x.f0 x.f1 x.f2 x.f3.f0 x.f3.f1 x.f3.f2 x.f4 x.f5 x.f6 zs = some t) :
    ∀ (n i : Nat), i + n = zs.length → TotP (fun r => r = endR (okFrom l zs n i) t) (fun k => firkinref21_Ask.l0 k l zs (i : Int) x.f0 x.f1 x.f2 x.f3.f0 x.f3.f1 x.f3.f2 x.f4 x.f5 x.f6) := by
  intro n
  induction n with
  | zero =>
    intro i hi
    refine TotP.succ (fun k => by simp only [firkinref21_Ask.l0]; rfl) ?_
    refine TotP.ite (fun h' => absurd h' (by omega)) (fun _ => ?_)
    rw [h]
    exact TotP.some_ rfl
  | succ n ih =>
    intro i hi
    refine TotP.succ (fun k => by simp only [firkinref21_Ask.l0]; rfl) ?_
    refine TotP.ite (fun _ => ?_) (fun h' => absurd (by omega) h')
    refine TotP.ite (fun _ => ?_) (fun h' => absurd (by omega) h')
    refine TotP.ite (fun _ => ?_) (fun h' => absurd (by omega) h')
    refine TotP.bind (zm11 _ _ _ _ _ _ _ _ _) (fun b hb => ?_)
    refine TotP.ite (fun g => ?_) (fun g => TotP.some_ ?_)
    · rw [wrap_in (by omega) (by omega), show (i : Int) + 1 = ((i + 1 : Nat) : Int) by omega]
      refine (ih (i + 1) (by omega)).weak (fun r hr => ?_)
      rw [hr, okFrom, ← hb, g, Bool.true_and]
    · rw [okFrom, ← hb, Bool.eq_false_iff.2 g]; rfl
theorem fits_good (l : List S64) (x : S27) (h : fitsE l x = 0) : Good mayStep 6 x ∧ Good (typedStep l) 6 x := by
  unfold fitsE at h
  by_cases hc : mayB x = true ∧ checkE l = 0
  · rw [if_pos hc] at h
    cases hb : (ev (typedStep l) 6 x ()).1
    · rw [hb] at h; simp at h
    · exact ⟨⟨0, hc.1⟩, ⟨(), hb⟩⟩
  · rw [if_neg hc] at h
    omega
theorem askA (l : List S64) (zs : List S33) (x : S27) (hzl : zs.length ≤ 9223372036854775806) (hl : Lens 6 x) : TotP (fun r => r = askE l zs x) (fun k => prune_Ask.f k l x.f0 x.f1 x.f2 x.f3.f0 x.f3.f1 x.f3.f2 x.f4 x.f5 x.f6 zs) := by
  unfold prune_Ask.f askE
  simp only [pred_Fits.f, Option.bind_some]
  refine TotP.ite (fun h0 => ?_) (fun h0 => TotP.some_ (if_neg (show ¬ fitsE l x = 0 from h0)).symm)
  rw [if_pos (show fitsE l x = 0 from h0)]
  refine TotP.ite (fun hz => ?_) (fun hz => TotP.some_ (by rw [if_neg (by omega)]))
  rw [if_pos (show zs.length = l.length by omega)]
  obtain ⟨hm, ht⟩ := fits_good l x h0
  have := loopA l zs x (by omega) hzl _ (askR_tot l zs (by omega) 6 x hl hm ht) zs.length 0 (by omega)
  simpa using this
theorem askB (l : List S64) (zs : List S33) (x : S27) (hzl : zs.length ≤ 9223372036854775806) (hll : l.length ≤ 9223372036854775806) (hs : ∀ y, y ∈ l → y.f0.size ≤ 9223372036854775806) (hl : Fine 6 x) : TotP (fun r => r = askE l zs x) (fun k => firkinref21_Ask.f k l x.f0 x.f1 x.f2 x.f3.f0 x.f3.f1 x.f3.f2 x.f4 x.f5 x.f6 zs) := by
  unfold firkinref21_Ask.f askE
  refine TotP.bind (fits17 l x hll hs hl) (fun e he => ?_)
  subst he
  refine TotP.ite (fun h0 => ?_) (fun h0 => TotP.some_ (by rw [if_neg h0]))
  rw [if_pos h0]
  refine TotP.ite (fun hz => ?_) (fun hz => TotP.some_ (by rw [if_neg (by omega)]))
  rw [if_pos (show zs.length = l.length by omega)]
  obtain ⟨hm, ht⟩ := fits_good l x h0
  have hk := ok_good l zs (by omega) hll 6 x (Fine.lens 6 x hl) hm ht
  have h : firkinref21_ask.f l x.f0 x.f1 x.f2 x.f3.f0 x.f3.f1 x.f3.f2 x.f4 x.f5 x.f6 zs = some (askR l zs 6 x) := by
    unfold firkinref21_ask.f
    exact if_pos hk
  have := loopB l zs x (by omega) hzl _ h zs.length 0 (by omega)
  simpa using this
theorem live_tot : TotP (fun r => r = true) (fun k => firkinlaw21_live.f k) := by
  refine ⟨true, ⟨60, fun k hk => ?_⟩, rfl⟩
  obtain ⟨n, rfl⟩ : ∃ n, k = 60 + n := ⟨k - 60, by omega⟩
  clear hk
  induction n with
  | zero => exact live21
  | succ n ih => exact firkinlaw21_live.mono (60 + n) true ih
theorem asks_true (l : List S64) (zs : List S33) (x : S27) (hll : l.length ≤ 9223372036854775807) (hzl : zs.length ≤ 9223372036854775807) :
    TotP (fun r => r = true) (fun k => firkinlaw21_PruneAsks.f k l x.f0 x.f1 x.f2 x.f3.f0 x.f3.f1 x.f3.f2 x.f4 x.f5 x.f6 zs) := by
  have L : TotP (fun r => r = true) (fun k => (firkinlaw21_live.f k).bind fun t => some t) := TotP.bind live_tot (fun r hr => TotP.some_ hr)
  unfold firkinlaw21_PruneAsks.f
  have out : ∀ b : Bool, b = true → TotP (fun r => r = true) (fun k => firkinlaw21_PruneAsks.j0 k l zs b x.f0 x.f1 x.f2 x.f3.f0 x.f3.f1 x.f3.f2 x.f4 x.f5 x.f6) := by
    intro b hb
    refine TotP.succ (fun k => by simp only [firkinlaw21_PruneAsks.j0]; rfl) ?_
    exact TotP.ite (fun _ => L) (fun h => absurd hb h)
  refine TotP.bind (small12 l hll) (fun s hs => ?_)
  refine TotP.ite (fun hs1 => ?_) (fun _ => out true rfl)
  obtain ⟨hl20, hnames⟩ := hs hs1
  refine TotP.bind (smallF 9 x (by omega)) (fun f hf => ?_)
  refine TotP.ite (fun hf1 => ?_) (fun _ => out true rfl)
  have hF := hf hf1
  by_cases h20 : (zs.length : Int) > 20
  · exact out _ (decide_eq_true h20)
  refine TotP.succ (fun k => by simp only [firkinlaw21_PruneAsks.j0]; rfl) ?_
  refine TotP.ite (fun h => absurd (of_decide_eq_true h) h20) (fun _ => ?_)
  have hF6 := Fine.le 6 9 x (by omega) hF
  have hA := askA l zs x (by omega) (Fine.lens 6 x hF6)
  have hB := askB l zs x (by omega) (by omega) (fun y hy => by have := hnames y hy; omega) hF6
  have key : ∀ (n i : Nat), i + n = zs.length → TotP (fun r => r = true) (fun k => firkinlaw21_PruneAsks.l0 k l zs (i : Int) x.f0 x.f1 x.f2 x.f3.f0 x.f3.f1 x.f3.f2 x.f4 x.f5 x.f6) := by
    intro n
    induction n with
    | zero =>
      intro i hi
      refine TotP.succ (fun k => by simp only [firkinlaw21_PruneAsks.l0]; rfl) ?_
      refine TotP.ite (fun h' => absurd h' (by omega)) (fun _ => ?_)
      refine TotP.bind hA (fun a ha => ?_)
      refine TotP.bind hB (fun b hb => ?_)
      subst ha hb
      simp only [firkinlaw21_num.f, Option.bind_some]
      refine TotP.ite (fun _ => ?_) (fun h => absurd trivial h)
      refine TotP.ite (fun _ => ?_) (fun h => absurd (by simp) h)
      refine TotP.ite (fun _ => ?_) (fun h => absurd (by simp) h)
      refine TotP.ite (fun _ => ?_) (fun h => absurd (by simp) h)
      have hS : TotP (fun r => r = (decide ((askE l zs x).2.2.2 = 0) && !(askE l zs x).1)) (fun k => prune_Skip.f k l x.f0 x.f1 x.f2 x.f3.f0 x.f3.f1 x.f3.f2 x.f4 x.f5 x.f6 zs) := by
        unfold prune_Skip.f
        refine TotP.bind hA (fun a ha => ?_)
        subst ha
        refine TotP.ite (fun h => ?_) (fun h => TotP.some_ (by rw [decide_eq_false h]; rfl))
        simp only [prune_none.f, Option.bind_some]
        exact TotP.some_ (by rw [decide_eq_true h]; simp)
      refine TotP.bind hS (fun s hs => ?_)
      subst hs
      refine TotP.ite (fun h => ?_) (fun h => ?_)
      · refine TotP.ite (fun _ => L) (fun g => absurd ?_ g)
        rw [decide_eq_true h]; simp
      · refine TotP.ite (fun _ => L) (fun g => absurd ?_ g)
        rw [decide_eq_false h]; rfl
    | succ n ih =>
      intro i hi
      refine TotP.succ (fun k => by simp only [firkinlaw21_PruneAsks.l0]; rfl) ?_
      refine TotP.ite (fun _ => ?_) (fun h' => absurd (by omega) h')
      refine TotP.ite (fun _ => ?_) (fun h' => absurd (by omega) h')
      refine TotP.ite (fun _ => L) (fun _ => ?_)
      refine TotP.ite (fun _ => L) (fun _ => ?_)
      rw [wrap_in (by omega) (by omega), show (i : Int) + 1 = ((i + 1 : Nat) : Int) by omega]
      exact ih (i + 1) (by omega)
  simpa using key zs.length 0 (by omega)
end Go.Proofs.Ytdedmhmomoejkaa.X
namespace Go.Proofs.Ytdedmhmomoejkaa.X
open Go.RowKit Go.ChangeShapes Go.WideShapes Go.ChangeAt Go.Proofs.YtdedmhmomoejkaaW.PrintWords
set_option linter.unusedVariables false
theorem prog_own : ownKnob Try.prog.godebug = none := by kernel_rfl
theorem prog_laid : laidOutB Try.prog = true := by kernel_rfl
theorem slice_open {w : World} {α : Type} {d : Kd α} {e : Nat} {l : List α} {cs : List Value} (h : (Kd.slice e d).K w l cs) : ∃ A c, cs = [.slice A l.length c] ∧ l.length ≤ c ∧ d.C w A l.length l := h
set_option maxRecDepth 100000 in
theorem pruneAsks_lifted (os : Os) (started : os.Started) (H : Type) (enc : TypeId × Value → H) :
    ReturnsInHanded {} Try.checked os 3 .any (Rows.pruneAsksSpec.pre6 enc Try.prog Try.f3 Rows.pruneAsksRow.domain false) (Rows.pruneAsksSpec.post enc Try.prog Try.f3 false true false false) := by
  refine returnsInHanded_of_change_sized (C := Try.checked) prog_own started (by kernel_rfl) Try.func3
    (ChangeSpec.witness6 (enc := enc) (C := Try.checked) false ⟨#[], #[.slice none 0 0, .agg #[.int .i64 0, .string ByteArray.empty, .int .i64 0, .bool false, .int .i64 0, .string ByteArray.empty, .int .i64 0, .string ByteArray.empty, .slice none 0 0], .slice none 0 0], []⟩ 8 (by kernel_rfl) (by kernel_rfl) (by kernel_rfl) (by kernel_rfl)) ?_
  intro W base args ds gs before hval0 hW hcnd hsz0 _
  have hval : ∀ (j : Nat) t v, Try.f3.params[j]? = some t → args[j]? = some v → Value.okWide Try.prog W .any base t v := hval0
  have hW' := hW
  obtain ⟨p, q, hA0, hV, rfl, hfz, hnd⟩ := hW
  have hA : DataW.TrodAll enc Try.prog W 0 (fun _ => true) true Try.f3.params.toList args.toList ds p := hA0
  rw [Try.params3] at hA hval
  obtain ⟨v0, vs0, d0, ds0, p0, q0, hargs, rfl, rfl, h0, r0⟩ := trodAll_cons hA
  obtain ⟨v1, vs1, d1, ds1, p1, q1, rfl, rfl, rfl, h1, r1⟩ := trodAll_cons r0
  obtain ⟨v2, vs2, d2, ds2, p2, q2, rfl, rfl, rfl, h2, r2⟩ := trodAll_cons r1
  obtain ⟨rfl, rfl, rfl⟩ := trodAll_nil r2
  obtain rfl : args = #[v0, v1, v2] := by cases args; simp_all
  obtain ⟨rfl, rfl⟩ := trodVars_none hV
  obtain ⟨a0, len0, cap0, rfl⟩ := okWide_slice Try.underlying22 (hval 0 22 v0 rfl rfl)
  obtain ⟨cs1, rfl, _⟩ := okWide_struct Try.underlying27 (hval 1 27 v1 rfl rfl)
  obtain ⟨a2, len2, cap2, rfl⟩ := okWide_slice Try.underlying28 (hval 2 28 v2 rfl rfl)
  have lt0 : ∀ x ∈ p0, x.block < W.heap.size := by obtain ⟨m, hm⟩ := h0; exact DataW.trod_lt m _ _ _ hm
  have lt1 : ∀ x ∈ p1, x.block < W.heap.size := by obtain ⟨m, hm⟩ := h1; exact DataW.trod_lt m _ _ _ hm
  have lt2 : ∀ x ∈ p2, x.block < W.heap.size := by obtain ⟨m, hm⟩ := h2; exact DataW.trod_lt m _ _ _ hm
  obtain ⟨l0, A0, c0, e0, hc0, hr0⟩ : ∃ (l0 : List S64) (A0 : Option Addr) (c0 : Nat), Value.slice a0 len0 cap0 = .slice A0 l0.length c0 ∧ l0.length ≤ c0 ∧ Kd.C k64 W A0 l0.length l0 := by
    obtain ⟨m, hm⟩ := h0
    obtain ⟨l, hl, _⟩ := (opens_slice Try.underlying22 (by kernel_rfl) (opens64 m)).go H enc W 0 _ true m _ _ (by omega) hm
    obtain ⟨A, c, hcs, hle, hC⟩ := slice_open hl
    exact ⟨l, A, c, by simpa [Value.cells] using hcs, hle, hC⟩
  obtain ⟨l2, A2, c2, e2, hc2, hr2⟩ : ∃ (l2 : List S33) (A2 : Option Addr) (c2 : Nat), Value.slice a2 len2 cap2 = .slice A2 l2.length c2 ∧ l2.length ≤ c2 ∧ Kd.C k33 W A2 l2.length l2 := by
    obtain ⟨m, hm⟩ := h2
    obtain ⟨l, hl, _⟩ := (opens_slice Try.underlying28 (by kernel_rfl) (opens33 m)).go H enc W 0 _ true m _ _ (by omega) hm
    obtain ⟨A, c, hcs, hle, hC⟩ := slice_open hl
    exact ⟨l, A, c, by simpa [Value.cells] using hcs, hle, hC⟩
  obtain ⟨x, A8, c8, e1, hc8, hr8⟩ : ∃ (x : S27) (A8 : Option Addr) (c8 : Nat), Value.agg cs1 = .agg #[.int .i64 x.f0, .string x.f1, .int .i64 x.f2, .bool x.f3.f0, .int .i64 x.f3.f1, .string x.f3.f2, .int .i64 x.f4, .string x.f5, .slice A8 x.f6.length c8] ∧ x.f6.length ≤ c8 ∧ Kd.C k27 W A8 x.f6.length x.f6 := by
    obtain ⟨m, hm⟩ := h1
    obtain ⟨x, hx, _⟩ := (opens27 m).go H enc W 0 _ true m _ _ (by omega) hm
    obtain ⟨A, c, hcs, hle, hC⟩ := k27_open hx
    refine ⟨x, A, c, ?_, hle, hC⟩
    have : cs1.toList = _ := hcs
    cases cs1
    simp_all
  rw [e0] at h0
  rw [e1] at h1
  rw [e2] at h2
  rw [e0, e1, e2]
  clear hA0 hval0 hsz0
  obtain ⟨r, ⟨k, hk⟩, hr⟩ := asks_true l0 l2 x (Kd.C_max hr0) (Kd.C_max hr2)
  subst hr
  refine (firkinlaw21_PruneAsks.calls k A0 c0 l0 x.f0 x.f1 x.f2 x.f3.f0 x.f3.f1 x.f3.f2 x.f4 x.f5 A8 c8 x.f6 A2 c2 l2 true W hr0 hc0 hr8 hc8 hr2 hc2 (hk k (Nat.le_refl _))).mono fun e W' ⟨he, bel⟩ => ?_
  subst he
  have hb0 := Below.trod prog_laid (by kernel_rfl) (of_decide_eq_true (by kernel_rfl)) h0 bel lt0
  have hb1 := Below.trod prog_laid (by kernel_rfl) (of_decide_eq_true (by kernel_rfl)) h1 bel lt1
  have hb2 := Below.trod prog_laid (by kernel_rfl) (of_decide_eq_true (by kernel_rfl)) h2 bel lt2
  rw [e0, e1, e2] at hW'
  exact ⟨_, rfl, _, _, _, [], _, [], hW', trodAll_mk1 (shut_bool Try.underlying4 _), (trodAll_cons_mk hb0 (trodAll_cons_mk hb1 (trodAll_cons_mk hb2 trodAll_mk0))), rfl, bel.frame _, fun h => by cases h⟩
theorem pruneAsks_holds : Rows.PruneAsksSaid :=
  OpenClaim.holds_of_wide 3 Try.f3 rfl rfl rfl rfl rfl rfl rfl ⟨rfl, rfl, rfl, rfl, rfl⟩ rfl rfl rfl rfl rfl (by kernel_rfl) Try.func3 (by kernel_rfl)
    (of_decide_eq_true (by kernel_rfl)) (by unfold Func.isWrapper; first | (rw [if_pos (by decide +kernel)]; kernel_rfl) | (rw [if_neg (by decide +kernel)]; exact ⟨rfl, rfl⟩))
    (fun os started H enc _ => pruneAsks_lifted os started H enc)
end Go.Proofs.Ytdedmhmomoejkaa.X
