/- Words and walks for pruneAsks_holds, part 13 of the texts that a program of this session laid together. -/
import Derived.Test.YtdedmhmomoejkaaR1
import Derived.Test.YtdedmhmomoejkaaR11
import Derived.Test.YtdedmhmomoejkaaR12
namespace Go.Proofs.Ytdedmhmomoejkaa.X
open Go.RowKit Go.Proofs.YtdedmhmomoejkaaW.PrintWords Go.Proofs.YtdedmhmomoejkaaW.PrintLast Go.Proofs.YtdedmhmomoejkaaW.PrintMore
attribute [local go_sem] max2_int max_two
set_option linter.unusedVariables false
set_option linter.unusedSimpArgs false
def firkinref21_Ask.l0 : Nat → List (S64) → List (S33) → Int → Int → ByteArray → Int → Bool → Int → ByteArray → Int → ByteArray → List (S27) → Option (Bool × Bool × Bool × Int)
 | 0, _, _, _, _, _, _, _, _, _, _, _, _ => none
 | k + 1, x0, x2, x9, x310000, x310001, x310002, x310003, x310004, x310005, x310006, x310007, x310008 => if x9 < (x2.length : Int) then (if 0 ≤ x9 then (if x9 < (x0.length : Int) then ((firkinref11_May.f k ((rd_T64 x0 x9).f1) ((rd_T33 x2 x9).f0) ((rd_T33 x2 x9).f1) ((rd_T33 x2 x9).f2.f0) ((rd_T33 x2 x9).f2.f1) ((rd_T33 x2 x9).f2.f2) ((rd_T33 x2 x9).f3.f0) ((rd_T33 x2 x9).f3.f1) ((rd_T33 x2 x9).f3.f2)).bind fun t314 => (if t314 = true then (firkinref21_Ask.l0 k x0 x2 (wrap64 (x9 + 1)) x310000 x310001 x310002 x310003 x310004 x310005 x310006 x310007 x310008) else (some (false, false, false, 1)))) else (none)) else (none)) else ((firkinref21_ask.f x0 x310000 x310001 x310002 x310003 x310004 x310005 x310006 x310007 x310008 x2).bind fun bt315 => (some (bt315.1, bt315.2.1, bt315.2.2, 0)))
def firkinref21_Ask.f (k : Nat) (l0 : List (S64)) (a1_0 : Int) (a1_1 : ByteArray) (a1_2 : Int) (a1_3 : Bool) (a1_4 : Int) (a1_5 : ByteArray) (a1_6 : Int) (a1_7 : ByteArray) (l1_8 : List (S27)) (l2 : List (S33)) : Option (Bool × Bool × Bool × Int) := (firkinref17_Fits.f k l0 a1_0 a1_1 a1_2 a1_3 a1_4 a1_5 a1_6 a1_7 l1_8).bind fun t311 => (if t311 = 0 then (if (l2.length : Int) = (l0.length : Int) then (firkinref21_Ask.l0 k l0 l2 0 a1_0 a1_1 a1_2 a1_3 a1_4 a1_5 a1_6 a1_7 l1_8) else (some (false, false, false, 1))) else (some (false, false, false, t311)))
theorem firkinref21_Ask.mono_l : ∀ k, (∀ y0 y1 y2 y3 y4 y5 y6 y7 y8 y9 y10 y11, LeO (firkinref21_Ask.l0 k y0 y1 y2 y3 y4 y5 y6 y7 y8 y9 y10 y11) (firkinref21_Ask.l0 (k + 1) y0 y1 y2 y3 y4 y5 y6 y7 y8 y9 y10 y11))
 | 0 => fun _ _ _ _ _ _ _ _ _ _ _ _ r h => by simp [firkinref21_Ask.l0] at h
 | k + 1 => by
  have ih0 := firkinref21_Ask.mono_l k
  ·intro y0 y1 y2 y3 y4 y5 y6 y7 y8 y9 y10 y11
   unfold firkinref21_Ask.l0
   repeat' first
   | (with_reducible exact ih0 _ _ _ _ _ _ _ _ _ _ _ _)
   | (with_reducible exact firkinref11_May.mono _ _ _ _ _ _ _ _ _ _)
   | (with_reducible exact firkinref17_Fits.mono _ _ _ _ _ _ _ _ _ _ _)
   | (with_reducible exact LeO.refl _)
   | (with_reducible exact LeO.none _)
   | (with_reducible refine LeO.ite ?_ ?_)
   | (with_reducible refine LeO.bind ?_ (fun _ => ?_))
   | exact ih0 _ _ _ _ _ _ _ _ _ _ _ _
   | exact firkinref11_May.mono _ _ _ _ _ _ _ _ _ _
   | exact firkinref17_Fits.mono _ _ _ _ _ _ _ _ _ _ _
   | exact LeO.none _
   | refine LeO.ite ?_ ?_
   | refine LeO.bind ?_ (fun _ => ?_)
theorem firkinref21_Ask.mono : ∀ a0 a1 a2 a3 a4 a5 a6 a7 a8 a9 a10 k, LeO (firkinref21_Ask.f k a0 a1 a2 a3 a4 a5 a6 a7 a8 a9 a10) (firkinref21_Ask.f (k + 1) a0 a1 a2 a3 a4 a5 a6 a7 a8 a9 a10) := by
 intro a0 a1 a2 a3 a4 a5 a6 a7 a8 a9 a10 k
 have ih0 := firkinref21_Ask.mono_l k
 unfold firkinref21_Ask.f
 repeat' first
   | (with_reducible exact ih0 _ _ _ _ _ _ _ _ _ _ _ _)
   | (with_reducible exact firkinref11_May.mono _ _ _ _ _ _ _ _ _ _)
   | (with_reducible exact firkinref17_Fits.mono _ _ _ _ _ _ _ _ _ _ _)
   | (with_reducible exact LeO.refl _)
   | (with_reducible exact LeO.none _)
   | (with_reducible refine LeO.ite ?_ ?_)
   | (with_reducible refine LeO.bind ?_ (fun _ => ?_))
   | exact ih0 _ _ _ _ _ _ _ _ _ _ _ _
   | exact firkinref11_May.mono _ _ _ _ _ _ _ _ _ _
   | exact firkinref17_Fits.mono _ _ _ _ _ _ _ _ _ _ _
   | exact LeO.none _
   | refine LeO.ite ?_ ?_
   | refine LeO.bind ?_ (fun _ => ?_)
def firkinref21_Ask.T9 : Bool × List (List Nat × List Nat) := (true, [([], []), ([], []), ([0, 1], [0, 1]), ([2], [2]), ([3], [3]), ([], []), ([], []), ([5, 6], [5, 6]), ([7], [7]), ([4, 8], [4, 8]), ([9], [9])])
def firkinref21_Ask.B9 : List Nat := [0, 0, 3, 7, 15, 0, 0, 96, 224, 511, 1023]
theorem firkinref21_Ask.tab9 : rtab .any (opsOf Try.f13 9) = firkinref21_Ask.T9 := by kernel_rfl
theorem firkinref21_Ask.bits9 : waitsOk firkinref21_Ask.T9.2 firkinref21_Ask.B9 = true := by kernel_rfl
set_option maxHeartbeats 8000000 in
set_option maxRecDepth 100000 in
theorem firkinref21_Ask.calls (k : Nat) (A0 : Option Addr) (c0 : Nat) (l0 : List (S64)) (a1_0 : Int) (a1_1 : ByteArray) (a1_2 : Int) (a1_3 : Bool) (a1_4 : Int) (a1_5 : ByteArray) (a1_6 : Int) (a1_7 : ByteArray) (A1_8 : Option Addr) (c1_8 : Nat) (l1_8 : List (S27)) (A2 : Option Addr) (c2 : Nat) (l2 : List (S33)) (r1 : Bool) (r2 : Bool) (r3 : Bool) (r4 : Int) (w : World) (hr0 : Kd.C k64 w A0 l0.length l0) (hc0 : l0.length ≤ c0) (hr1_8 : Kd.C k27 w A1_8 l1_8.length l1_8) (hc1_8 : l1_8.length ≤ c1_8) (hr2 : Kd.C k33 w A2 l2.length l2) (hc2 : l2.length ≤ c2) (h : firkinref21_Ask.f k l0 a1_0 a1_1 a1_2 a1_3 a1_4 a1_5 a1_6 a1_7 l1_8 l2 = some (r1, r2, r3, r4)) :
  Calls Try.prog 13 #[.slice A0 l0.length c0, .agg #[.int .i64 a1_0, .string a1_1, .int .i64 a1_2, .bool a1_3, .int .i64 a1_4, .string a1_5, .int .i64 a1_6, .string a1_7, .slice A1_8 l1_8.length c1_8], .slice A2 l2.length c2] w fun e w' => e = .returned (.tuple #[.agg #[.bool r1, .bool r2, .bool r3], .int .i64 r4]) ∧ Below w.heap.size w w' := by
 have hu27 := Try.underlying27
 have hu39 := Try.underlying39
 have hu33 := Try.underlying33
 have HR0 := Aside0.mk hr0
 have HC0 := Aside0.mk hc0
 clear hr0 hc0
 have HR1_8 := Aside0.mk hr1_8
 have HC1_8 := Aside0.mk hc1_8
 clear hr1_8 hc1_8
 have HR2 := Aside0.mk hr2
 have HC2 := Aside0.mk hc2
 clear hr2 hc2
 have HB := Aside0.mk (Below.refl w.heap.size w)
 have H : ((firkinref17_Fits.f k l0 a1_0 a1_1 a1_2 a1_3 a1_4 a1_5 a1_6 a1_7 l1_8).bind fun t311 => (if t311 = 0 then (if (l2.length : Int) = (l0.length : Int) then (firkinref21_Ask.l0 k l0 l2 0 a1_0 a1_1 a1_2 a1_3 a1_4 a1_5 a1_6 a1_7 l1_8) else (some (false, false, false, 1))) else (some (false, false, false, t311)))) = some (r1, r2, r3, r4) := h
 clear h
 replace H := Option.bind_eq_some_iff.mp H
 obtain ⟨t311, A40, H⟩ := H
 replace H : (if t311 = 0 then (if (l2.length : Int) = (l0.length : Int) then (firkinref21_Ask.l0 k l0 l2 0 a1_0 a1_1 a1_2 a1_3 a1_4 a1_5 a1_6 a1_7 l1_8) else (some (false, false, false, 1))) else (some (false, false, false, t311))) = some (r1, r2, r3, r4) := H
 have A4 := Aside0.mk A40
 clear A40
 by_cases c5 : t311 = 0
 ·rw [if_pos c5] at H
  have c5b0 : (t311 == 0) = true := beq_iff_eq.mpr c5
  have c5b1 : (t311 != 0) = false := bne_eq_false_iff_eq.mpr c5
  clear c5
  by_cases c6 : (l2.length : Int) = (l0.length : Int)
  ·rw [if_pos c6] at H
   have c6b0 : ((l2.length : Int) == (l0.length : Int)) = true := beq_iff_eq.mpr c6
   have c6b1 : ((l2.length : Int) != (l0.length : Int)) = false := bne_eq_false_iff_eq.mpr c6
   have c6b2 : (l2.length == l0.length) = true := by first | simpa using c6 | (simp at c6 ⊢; omega)
   clear c6
   have H' := Aside0.mk H
   clear H
   go_enter Try.func13, Try.ntmps13
   go_wp2_with (first | (refine bx_ (N := 4) (cs := #[.int .i64 a1_0, .string a1_1, .int .i64 a1_2, .bool a1_3, .int .i64 a1_4, .string a1_5, .int .i64 a1_6, .string a1_7, .slice A1_8 l1_8.length c1_8]) (t := 27) ?_; intro gb309 hg w7 hbox hb; have BK309 := Aside0.mk (hbox); have GW309 := ge_ HB hg; have GE309 := ge_ HB hg; replace HB := bs_ HB hb; clear hb hbox hg) | (refine bx_ (N := 6) (cs := #[.bool false, .bool false, .bool false]) (t := 39) ?_; intro gb310 hg w8 hbox hb; have BK310 := Aside0.mk (hbox); have GW310 := ge_ HB hg; have GE310 := ge_ HB hg; have NB309_310 := lt_ BK309 hg; have NB310_309 := gt_ BK309 hg; replace BK309 := bk_ BK309 hb; replace HB := bs_ HB hb; clear hb hbox hg; have hnb9 := NB309_310.out; have hnc9 := NB310_309.out; obtain ⟨C10_0, C10_1, C10_2, C10_3, C10_4, C10_5, C10_6, C10_7, C10_8⟩ := zc9_ BK309.out; obtain ⟨F10_0, F10_1, F10_2, F10_3, F10_4, F10_5, F10_6, F10_7, F10_8⟩ := zf9_ BK309.out) | ((with_reducible refine gate_callee (f := 30) rfl ?_); refine gl_ (some 12) rfl Try.func30 #[.slice A0 l0.length c0, .agg #[.int .i64 a1_0, .string a1_1, .int .i64 a1_2, .bool a1_3, .int .i64 a1_4, .string a1_5, .int .i64 a1_6, .string a1_7, .slice A1_8 l1_8.length c1_8]] ?_; (with_reducible refine (firkinref17_Fits.calls k _ _ l0 a1_0 a1_1 a1_2 a1_3 a1_4 a1_5 a1_6 a1_7 _ _ l1_8 t311 _ ?side1 ?side2 ?side3 ?side4 A4.out).mono ?_); (case side1 => repeat (first | exact (Kd.C_below HR0.out HB.out) | (with_reducible refine Kd.C_alloc ?_ _) | (with_reducible refine Kd.C_drewN ?_ _) | (with_reducible refine Kd.C_drew ?_))); (case side2 => exact HC0.out); (case side3 => repeat (first | exact (Kd.C_below HR1_8.out HB.out) | (with_reducible refine Kd.C_alloc ?_ _) | (with_reducible refine Kd.C_drewN ?_ _) | (with_reducible refine Kd.C_drew ?_))); (case side4 => exact HC1_8.out); rintro e w11 ⟨rfl, hb⟩; refine ⟨_, rfl, ?_⟩;  replace BK309 := bk_ BK309 hb; replace BK310 := bk_ BK310 hb; replace HB := bs_ HB hb; (try clear hb); (try clear hb2); (try clear hk); (try clear hi)))
   go_loopg [9] k (fun kq v9 w' => ∃ (x9_1 : Int) (x311000_1 : Bool) (x311001_1 : Bool) (x311002_1 : Bool), v9 = .int .i64 x9_1 ∧ Aside0 (firkinref21_Ask.l0 kq l0 l2 x9_1 a1_0 a1_1 a1_2 a1_3 a1_4 a1_5 a1_6 a1_7 l1_8 = some (r1, r2, r3, r4)) ∧ Aside0 (kq ≤ k) ∧ Aside0 (w'.heap[gb309]? = some (.cells #[.int .i64 a1_0, .string a1_1, .int .i64 a1_2, .bool a1_3, .int .i64 a1_4, .string a1_5, .int .i64 a1_6, .string a1_7, (.slice A1_8 l1_8.length c1_8)] 27 (0, 0))) ∧ Aside0 (w'.heap[gb310]? = some (.cells #[.bool x311000_1, .bool x311001_1, .bool x311002_1] 39 (0, 0))) ∧ Aside0 (Below w.heap.size w w'))
   case atStart => exact ⟨(0), (false), (false), (false), (by first | rfl | (simp; done) | (simp [*]; done)), H', ⟨Nat.le_refl _⟩, ⟨by (with_reducible repeat (first | refine blk_drewN ?_ _ | refine blk_drew ?_ | refine blk_alloc ?_ _)); exact BK309.out⟩, ⟨by (with_reducible repeat (first | refine blk_drewN ?_ _ | refine blk_drew ?_ | refine blk_alloc ?_ _)); exact BK310.out⟩, ⟨by repeat (first | (with_reducible first | exact HB.out | apply below_alloc | apply pw_below_drewN | apply below_drew1 | refine below_set ?_ GE309.out | refine below_set ?_ GE310.out) | exact HB.out)⟩⟩
   case round =>
    clear H'
    try clear c1
    try clear c2
    try clear p2
    try clear c3
    try clear c5
    try clear c5b0
    try clear c5b1
    try clear c6
    try clear c6b0
    try clear c6b1
    try clear c6b2
    try clear c9
    try clear C10_0 C10_1 C10_2 C10_3 C10_4 C10_5 C10_6 C10_7 C10_8
    try clear F10_0 F10_1 F10_2 F10_3 F10_4 F10_5 F10_6 F10_7 F10_8
    obtain ⟨x9_1, x311000_1, x311001_1, x311002_1, rfl, HA, HK1, BK309, BK310, HB⟩ := hrel
    cases gk with
    | zero => exact absurd HA.out (by simp [firkinref21_Ask.l0])
    | succ k1 =>
     have H := HA.out
     clear HA
     simp only [firkinref21_Ask.l0] at H
     by_cases c12 : x9_1 < (l2.length : Int)
     ·rw [if_pos c12] at H
      have c12b0 : decide (x9_1 < (l2.length : Int)) = true := decide_eq_true c12
      clear c12
      by_cases c13 : 0 ≤ x9_1
      ·rw [if_pos c13] at H
       have c13b0 : decide (0 ≤ x9_1) = true := decide_eq_true c13
       clear c13
       by_cases c14 : x9_1 < (l0.length : Int)
       ·rw [if_pos c14] at H
        have c14b0 : decide (x9_1 < (l0.length : Int)) = true := decide_eq_true c14
        clear c14
        replace H := Option.bind_eq_some_iff.mp H
        obtain ⟨t314, A150, H⟩ := H
        replace H : (if t314 = true then (firkinref21_Ask.l0 k1 l0 l2 (wrap64 (x9_1 + 1)) a1_0 a1_1 a1_2 a1_3 a1_4 a1_5 a1_6 a1_7 l1_8) else (some (false, false, false, 1))) = some (r1, r2, r3, r4) := H
        have A15 := Aside0.mk A150
        clear A150
        by_cases c16 : t314 = true
        ·subst c16
         have H1 : (firkinref21_Ask.l0 k1 l0 l2 (wrap64 (x9_1 + 1)) a1_0 a1_1 a1_2 a1_3 a1_4 a1_5 a1_6 a1_7 l1_8) = some (r1, r2, r3, r4) := by rw [if_pos rfl] at H; exact H
         clear H
         have H := H1
         clear H1
         have H' := Aside0.mk H
         clear H
         try go_wp2
         replace BK309 := Aside0.mk (blk_drew BK309.out); replace BK310 := Aside0.mk (blk_drew BK310.out); replace HB := Aside0.mk (below_drew1 HB.out)
         have p312 : 0 ≤ (x9_1 : Int) := dt_
         have q312 : x9_1 < (l0.length : Int) := dt_
         obtain ⟨ad312, e312, hx312_0, hx312_1, hx312_2⟩ := at_T64 HR0.out x9_1 p312 q312
         have hw312_2 := hx312_2
         have hw312_1 := hx312_1
         have hw312_0 := hx312_0
         cases e312
         replace hx312_0 := hc_ HB hx312_0
         replace hx312_1 := hc_ HB hx312_1
         replace hx312_2 := hc_ HB hx312_2
         replace p312 := eq_true p312
         replace q312 := eq_true q312
         have p313 : 0 ≤ (x9_1 : Int) := dt_
         have q313 : x9_1 < (l2.length : Int) := dt_
         obtain ⟨ad313, e313, hx313_0, hx313_1, hx313_2, hx313_3, hx313_4, hx313_5, hx313_6, hx313_7⟩ := at_T33 HR2.out x9_1 p313 q313
         have hw313_7 := hx313_7
         have hw313_6 := hx313_6
         have hw313_5 := hx313_5
         have hw313_4 := hx313_4
         have hw313_3 := hx313_3
         have hw313_2 := hx313_2
         have hw313_1 := hx313_1
         have hw313_0 := hx313_0
         cases e313
         replace hx313_0 := hc_ HB hx313_0
         replace hx313_1 := hc_ HB hx313_1
         replace hx313_2 := hc_ HB hx313_2
         replace hx313_3 := hc_ HB hx313_3
         replace hx313_4 := hc_ HB hx313_4
         replace hx313_5 := hc_ HB hx313_5
         replace hx313_6 := hc_ HB hx313_6
         replace hx313_7 := hc_ HB hx313_7
         replace p313 := eq_true p313
         replace q313 := eq_true q313
         refine start_ (n := 11) (S := fun w' => w'.cell? (ad312.add ((x9_1).toNat * 3)) = some (.string ((rd_T64 l0 x9_1).f0)) ∧ w'.cell? ⟨(ad312.add ((x9_1).toNat * 3)).block, (ad312.add ((x9_1).toNat * 3)).off + 1, none⟩ = some (.int .i64 ((rd_T64 l0 x9_1).f1)) ∧ w'.cell? ⟨(ad312.add ((x9_1).toNat * 3)).block, (ad312.add ((x9_1).toNat * 3)).off + 2, none⟩ = some (.bool ((rd_T64 l0 x9_1).f2)) ∧ w'.cell? (ad313.add ((x9_1).toNat * 8)) = some (.int .i64 ((rd_T33 l2 x9_1).f0)) ∧ w'.cell? ⟨(ad313.add ((x9_1).toNat * 8)).block, (ad313.add ((x9_1).toNat * 8)).off + 1, none⟩ = some (.int .i64 ((rd_T33 l2 x9_1).f1)) ∧ w'.cell? ⟨(ad313.add ((x9_1).toNat * 8)).block, (ad313.add ((x9_1).toNat * 8)).off + 2, none⟩ = some (.bool ((rd_T33 l2 x9_1).f2.f0)) ∧ w'.cell? ⟨(ad313.add ((x9_1).toNat * 8)).block, (ad313.add ((x9_1).toNat * 8)).off + 3, none⟩ = some (.int .i64 ((rd_T33 l2 x9_1).f2.f1)) ∧ w'.cell? ⟨(ad313.add ((x9_1).toNat * 8)).block, (ad313.add ((x9_1).toNat * 8)).off + 4, none⟩ = some (.string ((rd_T33 l2 x9_1).f2.f2)) ∧ w'.cell? ⟨(ad313.add ((x9_1).toNat * 8)).block, (ad313.add ((x9_1).toNat * 8)).off + 5, none⟩ = some (.bool ((rd_T33 l2 x9_1).f3.f0)) ∧ w'.cell? ⟨(ad313.add ((x9_1).toNat * 8)).block, (ad313.add ((x9_1).toNat * 8)).off + 6, none⟩ = some (.int .i64 ((rd_T33 l2 x9_1).f3.f1)) ∧ w'.cell? ⟨(ad313.add ((x9_1).toNat * 8)).block, (ad313.add ((x9_1).toNat * 8)).off + 7, none⟩ = some (.string ((rd_T33 l2 x9_1).f3.f2))) (ds := []) #[false, false, false, false, false, false, false, false, false, false, false] (by kernel_rfl) rfl rfl ⟨((HB.out.cell (World.block_lt_of_cell? w _ hw312_0)).trans hw312_0), ((HB.out.cell (World.block_lt_of_cell? w _ hw312_1)).trans hw312_1), ((HB.out.cell (World.block_lt_of_cell? w _ hw312_2)).trans hw312_2), ((HB.out.cell (World.block_lt_of_cell? w _ hw313_0)).trans hw313_0), ((HB.out.cell (World.block_lt_of_cell? w _ hw313_1)).trans hw313_1), ((HB.out.cell (World.block_lt_of_cell? w _ hw313_2)).trans hw313_2), ((HB.out.cell (World.block_lt_of_cell? w _ hw313_3)).trans hw313_3), ((HB.out.cell (World.block_lt_of_cell? w _ hw313_4)).trans hw313_4), ((HB.out.cell (World.block_lt_of_cell? w _ hw313_5)).trans hw313_5), ((HB.out.cell (World.block_lt_of_cell? w _ hw313_6)).trans hw313_6), ((HB.out.cell (World.block_lt_of_cell? w _ hw313_7)).trans hw313_7)⟩ (fun hHeld => ?_); refine with_tabW firkinref21_Ask.tab9 firkinref21_Ask.bits9 (fun HT_ HW_ => ?_)
         generalize wr.drew = w17 at BK309 BK310 HB hx312_0 hx312_1 hx312_2 hx313_0 hx313_1 hx313_2 hx313_3 hx313_4 hx313_5 hx313_6 hx313_7 hHeld ⊢
         refine pu_ 0 (some 29) (bl_ 11 1) ?_
         refine pu_ 1 (some 30) (bl_ 11 3) ?_
         refine pu_ 2 (some 31) (bl_ 11 7) ?_
         refine pu_ 3 (some 32) (bl_ 11 15) ?_
         refine pu_ 5 (some 34) (bl_ 11 47) ?_
         refine pu_ 6 (some 35) (bl_ 11 111) ?_
         refine pu_ 7 (some 36) (bl_ 11 239) ?_
         refine ta_ 4 (some 33) (bl_ 11 255) hHeld ?_
         refine ta_ 8 (some 37) (bl_ 11 511) hHeld ?_
         refine one_ (i := 9) (N := some 38) #[true, true, true, true, true, true, true, true, true, true, false] rfl rfl (one_of HT_.out (by kernel_rfl)) (by decide) (fun K hK => ?_)
         refine gs_ Try.func31 #[.int .i64 ((rd_T64 l0 x9_1).f1), .agg #[.int .i64 ((rd_T33 l2 x9_1).f0), .int .i64 ((rd_T33 l2 x9_1).f1), .bool ((rd_T33 l2 x9_1).f2.f0), .int .i64 ((rd_T33 l2 x9_1).f2.f1), .string ((rd_T33 l2 x9_1).f2.f2), .bool ((rd_T33 l2 x9_1).f3.f0), .int .i64 ((rd_T33 l2 x9_1).f3.f1), .string ((rd_T33 l2 x9_1).f3.f2)]] ?_
         with_reducible refine (firkinref11_May.calls k1 ((rd_T64 l0 x9_1).f1) ((rd_T33 l2 x9_1).f0) ((rd_T33 l2 x9_1).f1) ((rd_T33 l2 x9_1).f2.f0) ((rd_T33 l2 x9_1).f2.f1) ((rd_T33 l2 x9_1).f2.f2) ((rd_T33 l2 x9_1).f3.f0) ((rd_T33 l2 x9_1).f3.f1) ((rd_T33 l2 x9_1).f3.f2) true _ A15.out).mono ?_
         rintro e w18 ⟨rfl, hb⟩
         refine ⟨_, rfl, ?_⟩
         replace BK309 := bk_ BK309 hb; replace BK310 := bk_ BK310 hb; replace HB := bs_ HB hb
         (try clear hb)
         (try clear hb2)
         (try clear hk)
         (try clear hi)
         refine hK.out _ _ ⟨((HB.out.cell (World.block_lt_of_cell? w _ hw312_0)).trans hw312_0), ((HB.out.cell (World.block_lt_of_cell? w _ hw312_1)).trans hw312_1), ((HB.out.cell (World.block_lt_of_cell? w _ hw312_2)).trans hw312_2), ((HB.out.cell (World.block_lt_of_cell? w _ hw313_0)).trans hw313_0), ((HB.out.cell (World.block_lt_of_cell? w _ hw313_1)).trans hw313_1), ((HB.out.cell (World.block_lt_of_cell? w _ hw313_2)).trans hw313_2), ((HB.out.cell (World.block_lt_of_cell? w _ hw313_3)).trans hw313_3), ((HB.out.cell (World.block_lt_of_cell? w _ hw313_4)).trans hw313_4), ((HB.out.cell (World.block_lt_of_cell? w _ hw313_5)).trans hw313_5), ((HB.out.cell (World.block_lt_of_cell? w _ hw313_6)).trans hw313_6), ((HB.out.cell (World.block_lt_of_cell? w _ hw313_7)).trans hw313_7)⟩ (fun hHeld => ?_)
         clear hK K
         refine norm_ (a' := ?_) ?_ ?_
         rotate_left
         ·show Act.put _ (some 38) _ = _
          simp only [Act.put, List.setIfInBounds_toArray, List.set_cons_zero, List.set_cons_succ, i64_w, i32_w]
          rfl
         refine pu_ 10 (some 39) (bl_ 11 2047) ?_
         refine done_ (done_of HT_.out (by kernel_rfl)) ?_
         try go_wp2
         go_roundg k1
         case measure => have := HK1.out; omega
         case rel => exact ⟨(wrap64 (x9_1 + 1)), (x311000_1), (x311001_1), (x311002_1), (by first | rfl | (simp; done) | (simp [*]; done)), H', ⟨by have := HK1.out; omega⟩, ⟨by (with_reducible repeat (first | refine blk_drewN ?_ _ | refine blk_drew ?_ | refine blk_alloc ?_ _)); exact BK309.out⟩, ⟨by (with_reducible repeat (first | refine blk_drewN ?_ _ | refine blk_drew ?_ | refine blk_alloc ?_ _)); exact BK310.out⟩, ⟨by repeat (first | (with_reducible first | exact HB.out | apply below_alloc | apply pw_below_drewN | apply below_drew1 | refine below_set ?_ GE309.out | refine below_set ?_ GE310.out) | exact HB.out)⟩⟩
        ·replace c16 := Bool.eq_false_iff.mpr c16
         subst c16
         have H1 : (some (false, false, false, 1)) = some (r1, r2, r3, r4) := by rw [if_neg (show ¬ (false = true) by decide)] at H; exact H
         clear H
         have H := H1
         clear H1
         simp only [Option.some.injEq, Prod.mk.injEq] at H
         obtain ⟨rfl, rfl, rfl, rfl⟩ := H
         try go_wp2
         replace BK309 := Aside0.mk (blk_drew BK309.out); replace BK310 := Aside0.mk (blk_drew BK310.out); replace HB := Aside0.mk (below_drew1 HB.out)
         have p312 : 0 ≤ (x9_1 : Int) := dt_
         have q312 : x9_1 < (l0.length : Int) := dt_
         obtain ⟨ad312, e312, hx312_0, hx312_1, hx312_2⟩ := at_T64 HR0.out x9_1 p312 q312
         have hw312_2 := hx312_2
         have hw312_1 := hx312_1
         have hw312_0 := hx312_0
         cases e312
         replace hx312_0 := hc_ HB hx312_0
         replace hx312_1 := hc_ HB hx312_1
         replace hx312_2 := hc_ HB hx312_2
         replace p312 := eq_true p312
         replace q312 := eq_true q312
         have p313 : 0 ≤ (x9_1 : Int) := dt_
         have q313 : x9_1 < (l2.length : Int) := dt_
         obtain ⟨ad313, e313, hx313_0, hx313_1, hx313_2, hx313_3, hx313_4, hx313_5, hx313_6, hx313_7⟩ := at_T33 HR2.out x9_1 p313 q313
         have hw313_7 := hx313_7
         have hw313_6 := hx313_6
         have hw313_5 := hx313_5
         have hw313_4 := hx313_4
         have hw313_3 := hx313_3
         have hw313_2 := hx313_2
         have hw313_1 := hx313_1
         have hw313_0 := hx313_0
         cases e313
         replace hx313_0 := hc_ HB hx313_0
         replace hx313_1 := hc_ HB hx313_1
         replace hx313_2 := hc_ HB hx313_2
         replace hx313_3 := hc_ HB hx313_3
         replace hx313_4 := hc_ HB hx313_4
         replace hx313_5 := hc_ HB hx313_5
         replace hx313_6 := hc_ HB hx313_6
         replace hx313_7 := hc_ HB hx313_7
         replace p313 := eq_true p313
         replace q313 := eq_true q313
         refine start_ (n := 11) (S := fun w' => w'.cell? (ad312.add ((x9_1).toNat * 3)) = some (.string ((rd_T64 l0 x9_1).f0)) ∧ w'.cell? ⟨(ad312.add ((x9_1).toNat * 3)).block, (ad312.add ((x9_1).toNat * 3)).off + 1, none⟩ = some (.int .i64 ((rd_T64 l0 x9_1).f1)) ∧ w'.cell? ⟨(ad312.add ((x9_1).toNat * 3)).block, (ad312.add ((x9_1).toNat * 3)).off + 2, none⟩ = some (.bool ((rd_T64 l0 x9_1).f2)) ∧ w'.cell? (ad313.add ((x9_1).toNat * 8)) = some (.int .i64 ((rd_T33 l2 x9_1).f0)) ∧ w'.cell? ⟨(ad313.add ((x9_1).toNat * 8)).block, (ad313.add ((x9_1).toNat * 8)).off + 1, none⟩ = some (.int .i64 ((rd_T33 l2 x9_1).f1)) ∧ w'.cell? ⟨(ad313.add ((x9_1).toNat * 8)).block, (ad313.add ((x9_1).toNat * 8)).off + 2, none⟩ = some (.bool ((rd_T33 l2 x9_1).f2.f0)) ∧ w'.cell? ⟨(ad313.add ((x9_1).toNat * 8)).block, (ad313.add ((x9_1).toNat * 8)).off + 3, none⟩ = some (.int .i64 ((rd_T33 l2 x9_1).f2.f1)) ∧ w'.cell? ⟨(ad313.add ((x9_1).toNat * 8)).block, (ad313.add ((x9_1).toNat * 8)).off + 4, none⟩ = some (.string ((rd_T33 l2 x9_1).f2.f2)) ∧ w'.cell? ⟨(ad313.add ((x9_1).toNat * 8)).block, (ad313.add ((x9_1).toNat * 8)).off + 5, none⟩ = some (.bool ((rd_T33 l2 x9_1).f3.f0)) ∧ w'.cell? ⟨(ad313.add ((x9_1).toNat * 8)).block, (ad313.add ((x9_1).toNat * 8)).off + 6, none⟩ = some (.int .i64 ((rd_T33 l2 x9_1).f3.f1)) ∧ w'.cell? ⟨(ad313.add ((x9_1).toNat * 8)).block, (ad313.add ((x9_1).toNat * 8)).off + 7, none⟩ = some (.string ((rd_T33 l2 x9_1).f3.f2))) (ds := []) #[false, false, false, false, false, false, false, false, false, false, false] (by kernel_rfl) rfl rfl ⟨((HB.out.cell (World.block_lt_of_cell? w _ hw312_0)).trans hw312_0), ((HB.out.cell (World.block_lt_of_cell? w _ hw312_1)).trans hw312_1), ((HB.out.cell (World.block_lt_of_cell? w _ hw312_2)).trans hw312_2), ((HB.out.cell (World.block_lt_of_cell? w _ hw313_0)).trans hw313_0), ((HB.out.cell (World.block_lt_of_cell? w _ hw313_1)).trans hw313_1), ((HB.out.cell (World.block_lt_of_cell? w _ hw313_2)).trans hw313_2), ((HB.out.cell (World.block_lt_of_cell? w _ hw313_3)).trans hw313_3), ((HB.out.cell (World.block_lt_of_cell? w _ hw313_4)).trans hw313_4), ((HB.out.cell (World.block_lt_of_cell? w _ hw313_5)).trans hw313_5), ((HB.out.cell (World.block_lt_of_cell? w _ hw313_6)).trans hw313_6), ((HB.out.cell (World.block_lt_of_cell? w _ hw313_7)).trans hw313_7)⟩ (fun hHeld => ?_); refine with_tabW firkinref21_Ask.tab9 firkinref21_Ask.bits9 (fun HT_ HW_ => ?_)
         generalize wr.drew = w19 at BK309 BK310 HB hx312_0 hx312_1 hx312_2 hx313_0 hx313_1 hx313_2 hx313_3 hx313_4 hx313_5 hx313_6 hx313_7 hHeld ⊢
         refine pu_ 0 (some 29) (bl_ 11 1) ?_
         refine pu_ 1 (some 30) (bl_ 11 3) ?_
         refine pu_ 2 (some 31) (bl_ 11 7) ?_
         refine pu_ 3 (some 32) (bl_ 11 15) ?_
         refine pu_ 5 (some 34) (bl_ 11 47) ?_
         refine pu_ 6 (some 35) (bl_ 11 111) ?_
         refine pu_ 7 (some 36) (bl_ 11 239) ?_
         refine ta_ 4 (some 33) (bl_ 11 255) hHeld ?_
         refine ta_ 8 (some 37) (bl_ 11 511) hHeld ?_
         refine one_ (i := 9) (N := some 38) #[true, true, true, true, true, true, true, true, true, true, false] rfl rfl (one_of HT_.out (by kernel_rfl)) (by decide) (fun K hK => ?_)
         refine gs_ Try.func31 #[.int .i64 ((rd_T64 l0 x9_1).f1), .agg #[.int .i64 ((rd_T33 l2 x9_1).f0), .int .i64 ((rd_T33 l2 x9_1).f1), .bool ((rd_T33 l2 x9_1).f2.f0), .int .i64 ((rd_T33 l2 x9_1).f2.f1), .string ((rd_T33 l2 x9_1).f2.f2), .bool ((rd_T33 l2 x9_1).f3.f0), .int .i64 ((rd_T33 l2 x9_1).f3.f1), .string ((rd_T33 l2 x9_1).f3.f2)]] ?_
         with_reducible refine (firkinref11_May.calls k1 ((rd_T64 l0 x9_1).f1) ((rd_T33 l2 x9_1).f0) ((rd_T33 l2 x9_1).f1) ((rd_T33 l2 x9_1).f2.f0) ((rd_T33 l2 x9_1).f2.f1) ((rd_T33 l2 x9_1).f2.f2) ((rd_T33 l2 x9_1).f3.f0) ((rd_T33 l2 x9_1).f3.f1) ((rd_T33 l2 x9_1).f3.f2) false _ A15.out).mono ?_
         rintro e w20 ⟨rfl, hb⟩
         refine ⟨_, rfl, ?_⟩
         replace BK309 := bk_ BK309 hb; replace BK310 := bk_ BK310 hb; replace HB := bs_ HB hb
         (try clear hb)
         (try clear hb2)
         (try clear hk)
         (try clear hi)
         refine hK.out _ _ ⟨((HB.out.cell (World.block_lt_of_cell? w _ hw312_0)).trans hw312_0), ((HB.out.cell (World.block_lt_of_cell? w _ hw312_1)).trans hw312_1), ((HB.out.cell (World.block_lt_of_cell? w _ hw312_2)).trans hw312_2), ((HB.out.cell (World.block_lt_of_cell? w _ hw313_0)).trans hw313_0), ((HB.out.cell (World.block_lt_of_cell? w _ hw313_1)).trans hw313_1), ((HB.out.cell (World.block_lt_of_cell? w _ hw313_2)).trans hw313_2), ((HB.out.cell (World.block_lt_of_cell? w _ hw313_3)).trans hw313_3), ((HB.out.cell (World.block_lt_of_cell? w _ hw313_4)).trans hw313_4), ((HB.out.cell (World.block_lt_of_cell? w _ hw313_5)).trans hw313_5), ((HB.out.cell (World.block_lt_of_cell? w _ hw313_6)).trans hw313_6), ((HB.out.cell (World.block_lt_of_cell? w _ hw313_7)).trans hw313_7)⟩ (fun hHeld => ?_)
         clear hK K
         refine norm_ (a' := ?_) ?_ ?_
         rotate_left
         ·show Act.put _ (some 38) _ = _
          simp only [Act.put, List.setIfInBounds_toArray, List.set_cons_zero, List.set_cons_succ, i64_w, i32_w]
          rfl
         refine pu_ 10 (some 39) (bl_ 11 2047) ?_
         refine done_ (done_of HT_.out (by kernel_rfl)) ?_
         have hnb21 := NB310_309.out
         have hnc21 := NB309_310.out
         obtain ⟨C22_0, C22_1, C22_2⟩ := cz3_ BK310.out
         obtain ⟨F22_0, F22_1, F22_2⟩ := fz3_ BK310.out
         try go_wp2
         refine bodyPost_ret (results_ct rfl _ _ gb310 39 #[.bool false, .bool false, .bool false] (0, 0) _ rfl (by (with_reducible repeat (first | refine blk_drewN ?_ _ | refine blk_drew ?_ | refine blk_alloc ?_ _)); apply blk_all3_; (with_reducible repeat (first | refine blk_drewN ?_ _ | refine blk_drew ?_ | refine blk_alloc ?_ _)); exact BK310.out) Try.underlying39 rfl (by kernel_rfl)) rfl ?_
         exact en_ HB
       ·rw [if_neg c14] at H
        exact absurd H (by simp)
      ·rw [if_neg c13] at H
       exact absurd H (by simp)
     ·rw [if_neg c12] at H
      have c12b0 : decide (x9_1 < (l2.length : Int)) = false := decide_eq_false c12
      clear c12
      replace H := Option.bind_eq_some_iff.mp H
      obtain ⟨⟨t315, t316, t317⟩, A230, H⟩ := H
      replace H : (some (t315, t316, t317, 0)) = some (r1, r2, r3, r4) := H
      have A23 := Aside0.mk A230
      clear A230
      simp only [Option.some.injEq, Prod.mk.injEq] at H
      obtain ⟨rfl, rfl, rfl, rfl⟩ := H
      have hnb24 := NB309_310.out
      have hnc24 := NB310_309.out
      obtain ⟨C25_0, C25_1, C25_2, C25_3, C25_4, C25_5, C25_6, C25_7, C25_8⟩ := cz9_ BK309.out
      obtain ⟨F25_0, F25_1, F25_2, F25_3, F25_4, F25_5, F25_6, F25_7, F25_8⟩ := fz9_ BK309.out
      go_wp2_with (first | ((with_reducible refine gate_callee (f := 32) rfl ?_); refine gl_ (some 44) rfl Try.func32 #[.slice A0 l0.length c0, .agg #[.int .i64 a1_0, .string a1_1, .int .i64 a1_2, .bool a1_3, .int .i64 a1_4, .string a1_5, .int .i64 a1_6, .string a1_7, .slice A1_8 l1_8.length c1_8], .slice A2 l2.length c2] ?_; (with_reducible refine (firkinref21_ask.calls _ _ l0 a1_0 a1_1 a1_2 a1_3 a1_4 a1_5 a1_6 a1_7 _ _ l1_8 _ _ l2 t315 t316 t317 _ ?side1 ?side2 ?side3 ?side4 ?side5 ?side6 A23.out).mono ?_); (case side1 => repeat (first | exact (Kd.C_below HR0.out HB.out) | (with_reducible refine Kd.C_alloc ?_ _) | (with_reducible refine Kd.C_drewN ?_ _) | (with_reducible refine Kd.C_drew ?_))); (case side2 => exact HC0.out); (case side3 => repeat (first | exact (Kd.C_below HR1_8.out HB.out) | (with_reducible refine Kd.C_alloc ?_ _) | (with_reducible refine Kd.C_drewN ?_ _) | (with_reducible refine Kd.C_drew ?_))); (case side4 => exact HC1_8.out); (case side5 => repeat (first | exact (Kd.C_below HR2.out HB.out) | (with_reducible refine Kd.C_alloc ?_ _) | (with_reducible refine Kd.C_drewN ?_ _) | (with_reducible refine Kd.C_drew ?_))); (case side6 => exact HC2.out); rintro e w26 ⟨rfl, hb⟩; refine ⟨_, rfl, ?_⟩;  replace BK309 := bk_ BK309 hb; replace BK310 := bk_ BK310 hb; replace HB := bs_ HB hb; (try clear hb); (try clear hb2); (try clear hk); (try clear hi); obtain ⟨C27_0, C27_1, C27_2⟩ := zc3_ BK310.out; obtain ⟨F27_0, F27_1, F27_2⟩ := zf3_ BK310.out))
      refine bodyPost_ret (results_ct rfl _ _ gb310 39 #[.bool t315, .bool t316, .bool t317] (0, 0) _ rfl (by (with_reducible repeat (first | refine blk_drewN ?_ _ | refine blk_drew ?_ | refine blk_alloc ?_ _)); apply blk_all3_; (with_reducible repeat (first | refine blk_drewN ?_ _ | refine blk_drew ?_ | refine blk_alloc ?_ _)); exact BK310.out) Try.underlying39 rfl (by kernel_rfl)) rfl ?_
      exact en_ HB
  ·rw [if_neg c6] at H
   have c6b0 : ((l2.length : Int) == (l0.length : Int)) = false := beq_eq_false_iff_ne.mpr c6
   have c6b1 : ((l2.length : Int) != (l0.length : Int)) = true := bne_iff_ne.mpr c6
   have c6b2 : (l2.length == l0.length) = false := by first | simpa using c6 | (simp at c6 ⊢; omega)
   simp only [Option.some.injEq, Prod.mk.injEq] at H
   obtain ⟨rfl, rfl, rfl, rfl⟩ := H
   go_enter Try.func13, Try.ntmps13
   go_wp2_with (first | (refine bx_ (N := 4) (cs := #[.int .i64 a1_0, .string a1_1, .int .i64 a1_2, .bool a1_3, .int .i64 a1_4, .string a1_5, .int .i64 a1_6, .string a1_7, .slice A1_8 l1_8.length c1_8]) (t := 27) ?_; intro gb309 hg w28 hbox hb; have BK309 := Aside0.mk (hbox); have GW309 := ge_ HB hg; have GE309 := ge_ HB hg; replace HB := bs_ HB hb; clear hb hbox hg) | (refine bx_ (N := 6) (cs := #[.bool false, .bool false, .bool false]) (t := 39) ?_; intro gb310 hg w29 hbox hb; have BK310 := Aside0.mk (hbox); have GW310 := ge_ HB hg; have GE310 := ge_ HB hg; have NB309_310 := lt_ BK309 hg; have NB310_309 := gt_ BK309 hg; replace BK309 := bk_ BK309 hb; replace HB := bs_ HB hb; clear hb hbox hg; have hnb30 := NB309_310.out; have hnc30 := NB310_309.out; obtain ⟨C31_0, C31_1, C31_2, C31_3, C31_4, C31_5, C31_6, C31_7, C31_8⟩ := zc9_ BK309.out; obtain ⟨F31_0, F31_1, F31_2, F31_3, F31_4, F31_5, F31_6, F31_7, F31_8⟩ := zf9_ BK309.out) | ((with_reducible refine gate_callee (f := 30) rfl ?_); refine gl_ (some 12) rfl Try.func30 #[.slice A0 l0.length c0, .agg #[.int .i64 a1_0, .string a1_1, .int .i64 a1_2, .bool a1_3, .int .i64 a1_4, .string a1_5, .int .i64 a1_6, .string a1_7, .slice A1_8 l1_8.length c1_8]] ?_; (with_reducible refine (firkinref17_Fits.calls k _ _ l0 a1_0 a1_1 a1_2 a1_3 a1_4 a1_5 a1_6 a1_7 _ _ l1_8 t311 _ ?side1 ?side2 ?side3 ?side4 A4.out).mono ?_); (case side1 => repeat (first | exact (Kd.C_below HR0.out HB.out) | (with_reducible refine Kd.C_alloc ?_ _) | (with_reducible refine Kd.C_drewN ?_ _) | (with_reducible refine Kd.C_drew ?_))); (case side2 => exact HC0.out); (case side3 => repeat (first | exact (Kd.C_below HR1_8.out HB.out) | (with_reducible refine Kd.C_alloc ?_ _) | (with_reducible refine Kd.C_drewN ?_ _) | (with_reducible refine Kd.C_drew ?_))); (case side4 => exact HC1_8.out); rintro e w32 ⟨rfl, hb⟩; refine ⟨_, rfl, ?_⟩;  replace BK309 := bk_ BK309 hb; replace BK310 := bk_ BK310 hb; replace HB := bs_ HB hb; (try clear hb); (try clear hb2); (try clear hk); (try clear hi); obtain ⟨C33_0, C33_1, C33_2⟩ := zc3_ BK310.out; obtain ⟨F33_0, F33_1, F33_2⟩ := zf3_ BK310.out))
   refine bodyPost_ret (results_ct rfl _ _ gb310 39 #[.bool false, .bool false, .bool false] (0, 0) _ rfl (by (with_reducible repeat (first | refine blk_drewN ?_ _ | refine blk_drew ?_ | refine blk_alloc ?_ _)); apply blk_all3_; (with_reducible repeat (first | refine blk_drewN ?_ _ | refine blk_drew ?_ | refine blk_alloc ?_ _)); exact BK310.out) Try.underlying39 rfl (by kernel_rfl)) rfl ?_
   exact en_ HB
 ·rw [if_neg c5] at H
  have c5b0 : (t311 == 0) = false := beq_eq_false_iff_ne.mpr c5
  have c5b1 : (t311 != 0) = true := bne_iff_ne.mpr c5
  simp only [Option.some.injEq, Prod.mk.injEq] at H
  obtain ⟨rfl, rfl, rfl, rfl⟩ := H
  go_enter Try.func13, Try.ntmps13
  go_wp2_with (first | (refine bx_ (N := 4) (cs := #[.int .i64 a1_0, .string a1_1, .int .i64 a1_2, .bool a1_3, .int .i64 a1_4, .string a1_5, .int .i64 a1_6, .string a1_7, .slice A1_8 l1_8.length c1_8]) (t := 27) ?_; intro gb309 hg w34 hbox hb; have BK309 := Aside0.mk (hbox); have GW309 := ge_ HB hg; have GE309 := ge_ HB hg; replace HB := bs_ HB hb; clear hb hbox hg) | (refine bx_ (N := 6) (cs := #[.bool false, .bool false, .bool false]) (t := 39) ?_; intro gb310 hg w35 hbox hb; have BK310 := Aside0.mk (hbox); have GW310 := ge_ HB hg; have GE310 := ge_ HB hg; have NB309_310 := lt_ BK309 hg; have NB310_309 := gt_ BK309 hg; replace BK309 := bk_ BK309 hb; replace HB := bs_ HB hb; clear hb hbox hg; have hnb36 := NB309_310.out; have hnc36 := NB310_309.out; obtain ⟨C37_0, C37_1, C37_2, C37_3, C37_4, C37_5, C37_6, C37_7, C37_8⟩ := zc9_ BK309.out; obtain ⟨F37_0, F37_1, F37_2, F37_3, F37_4, F37_5, F37_6, F37_7, F37_8⟩ := zf9_ BK309.out) | ((with_reducible refine gate_callee (f := 30) rfl ?_); refine gl_ (some 12) rfl Try.func30 #[.slice A0 l0.length c0, .agg #[.int .i64 a1_0, .string a1_1, .int .i64 a1_2, .bool a1_3, .int .i64 a1_4, .string a1_5, .int .i64 a1_6, .string a1_7, .slice A1_8 l1_8.length c1_8]] ?_; (with_reducible refine (firkinref17_Fits.calls k _ _ l0 a1_0 a1_1 a1_2 a1_3 a1_4 a1_5 a1_6 a1_7 _ _ l1_8 t311 _ ?side1 ?side2 ?side3 ?side4 A4.out).mono ?_); (case side1 => repeat (first | exact (Kd.C_below HR0.out HB.out) | (with_reducible refine Kd.C_alloc ?_ _) | (with_reducible refine Kd.C_drewN ?_ _) | (with_reducible refine Kd.C_drew ?_))); (case side2 => exact HC0.out); (case side3 => repeat (first | exact (Kd.C_below HR1_8.out HB.out) | (with_reducible refine Kd.C_alloc ?_ _) | (with_reducible refine Kd.C_drewN ?_ _) | (with_reducible refine Kd.C_drew ?_))); (case side4 => exact HC1_8.out); rintro e w38 ⟨rfl, hb⟩; refine ⟨_, rfl, ?_⟩;  replace BK309 := bk_ BK309 hb; replace BK310 := bk_ BK310 hb; replace HB := bs_ HB hb; (try clear hb); (try clear hb2); (try clear hk); (try clear hi); obtain ⟨C39_0, C39_1, C39_2⟩ := zc3_ BK310.out; obtain ⟨F39_0, F39_1, F39_2⟩ := zf3_ BK310.out))
  refine bodyPost_ret (results_ct rfl _ _ gb310 39 #[.bool false, .bool false, .bool false] (0, 0) _ rfl (by (with_reducible repeat (first | refine blk_drewN ?_ _ | refine blk_drew ?_ | refine blk_alloc ?_ _)); apply blk_all3_; (with_reducible repeat (first | refine blk_drewN ?_ _ | refine blk_drew ?_ | refine blk_alloc ?_ _)); exact BK310.out) Try.underlying39 rfl (by kernel_rfl)) rfl ?_
  exact en_ HB
end Go.Proofs.Ytdedmhmomoejkaa.X
