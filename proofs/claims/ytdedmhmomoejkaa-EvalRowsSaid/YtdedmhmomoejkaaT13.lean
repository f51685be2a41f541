/- Words and walks for evalRows_holds, part 13 of the texts that a program of this session laid together. -/
import Derived.Test.YtdedmhmomoejkaaT2
import Derived.Test.YtdedmhmomoejkaaT8
import Derived.Test.YtdedmhmomoejkaaT9
import Derived.Test.YtdedmhmomoejkaaT11
import Derived.Test.YtdedmhmomoejkaaT12
namespace Go.Proofs.Ytdedmhmomoejkaa.X
open Go.RowKit Go.Proofs.YtdedmhmomoejkaaW.PrintWords Go.Proofs.YtdedmhmomoejkaaW.PrintLast Go.Proofs.YtdedmhmomoejkaaW.PrintMore
attribute [local go_sem] max2_int max_two
set_option linter.unusedVariables false
set_option linter.unusedSimpArgs false
def firkinref20_Rows.l0 : Nat → List (S64) → List (List (S24)) → List Int → Int → Int → ByteArray → Int → Bool → Int → ByteArray → Int → ByteArray → List (S27) → Option (List Int × Int)
 | 0, _, _, _, _, _, _, _, _, _, _, _, _, _ => none
 | k + 1, x0, x2, x9, x10, x399000, x399001, x399002, x399003, x399004, x399005, x399006, x399007, x399008 => if x10 < (x2.length : Int) then (if 0 ≤ x10 then ((firkinref20_Row.f k x0 x399000 x399001 x399002 x399003 x399004 x399005 x399006 x399007 x399008 (rd_L8 x2 x10)).bind fun bt404 => (if bt404.2 = 0 then (if bt404.1 = 1 then (if x9.length < 17592186044416 then (firkinref20_Rows.l0 k x0 x2 (x9 ++ [x10]) (wrap64 (x10 + 1)) x399000 x399001 x399002 x399003 x399004 x399005 x399006 x399007 x399008) else (none)) else (firkinref20_Rows.l0 k x0 x2 x9 (wrap64 (x10 + 1)) x399000 x399001 x399002 x399003 x399004 x399005 x399006 x399007 x399008)) else (some (([] : List Int), bt404.2)))) else (none)) else (some (x9, 0))
def firkinref20_Rows.f (k : Nat) (l0 : List (S64)) (a1_0 : Int) (a1_1 : ByteArray) (a1_2 : Int) (a1_3 : Bool) (a1_4 : Int) (a1_5 : ByteArray) (a1_6 : Int) (a1_7 : ByteArray) (l1_8 : List (S27)) (l2 : List (List (S24))) : Option (List Int × Int) := (firkinref17_Fits.f k l0 a1_0 a1_1 a1_2 a1_3 a1_4 a1_5 a1_6 a1_7 l1_8).bind fun t399 => (if t399 = 0 then (firkinref20_Rows.l0 k l0 l2 (([] : List Int)) 0 a1_0 a1_1 a1_2 a1_3 a1_4 a1_5 a1_6 a1_7 l1_8) else (some (([] : List Int), t399)))
theorem firkinref20_Rows.mono_l : ∀ k, (∀ y0 y1 y2 y3 y4 y5 y6 y7 y8 y9 y10 y11 y12, LeO (firkinref20_Rows.l0 k y0 y1 y2 y3 y4 y5 y6 y7 y8 y9 y10 y11 y12) (firkinref20_Rows.l0 (k + 1) y0 y1 y2 y3 y4 y5 y6 y7 y8 y9 y10 y11 y12))
 | 0 => fun _ _ _ _ _ _ _ _ _ _ _ _ _ r h => by simp [firkinref20_Rows.l0] at h
 | k + 1 => by
  have ih0 := firkinref20_Rows.mono_l k
  ·intro y0 y1 y2 y3 y4 y5 y6 y7 y8 y9 y10 y11 y12
   unfold firkinref20_Rows.l0
   repeat' first
   | (with_reducible exact ih0 _ _ _ _ _ _ _ _ _ _ _ _ _)
   | (with_reducible exact firkinref17_Fits.mono _ _ _ _ _ _ _ _ _ _ _)
   | (with_reducible exact firkinref20_Row.mono _ _ _ _ _ _ _ _ _ _ _ _)
   | (with_reducible exact LeO.refl _)
   | (with_reducible exact LeO.none _)
   | (with_reducible refine LeO.ite ?_ ?_)
   | (with_reducible refine LeO.bind ?_ (fun _ => ?_))
   | exact ih0 _ _ _ _ _ _ _ _ _ _ _ _ _
   | exact firkinref17_Fits.mono _ _ _ _ _ _ _ _ _ _ _
   | exact firkinref20_Row.mono _ _ _ _ _ _ _ _ _ _ _ _
   | exact LeO.none _
   | refine LeO.ite ?_ ?_
   | refine LeO.bind ?_ (fun _ => ?_)
theorem firkinref20_Rows.mono : ∀ a0 a1 a2 a3 a4 a5 a6 a7 a8 a9 a10 k, LeO (firkinref20_Rows.f k a0 a1 a2 a3 a4 a5 a6 a7 a8 a9 a10) (firkinref20_Rows.f (k + 1) a0 a1 a2 a3 a4 a5 a6 a7 a8 a9 a10) := by
 intro a0 a1 a2 a3 a4 a5 a6 a7 a8 a9 a10 k
 have ih0 := firkinref20_Rows.mono_l k
 unfold firkinref20_Rows.f
 repeat' first
   | (with_reducible exact ih0 _ _ _ _ _ _ _ _ _ _ _ _ _)
   | (with_reducible exact firkinref17_Fits.mono _ _ _ _ _ _ _ _ _ _ _)
   | (with_reducible exact firkinref20_Row.mono _ _ _ _ _ _ _ _ _ _ _ _)
   | (with_reducible exact LeO.refl _)
   | (with_reducible exact LeO.none _)
   | (with_reducible refine LeO.ite ?_ ?_)
   | (with_reducible refine LeO.bind ?_ (fun _ => ?_))
   | exact ih0 _ _ _ _ _ _ _ _ _ _ _ _ _
   | exact firkinref17_Fits.mono _ _ _ _ _ _ _ _ _ _ _
   | exact firkinref20_Row.mono _ _ _ _ _ _ _ _ _ _ _ _
   | exact LeO.none _
   | refine LeO.ite ?_ ?_
   | refine LeO.bind ?_ (fun _ => ?_)
def firkinref20_Rows.T8 : Bool × List (List Nat × List Nat) := (true, [([], []), ([], []), ([], []), ([], []), ([2, 3], [2, 3]), ([4], [4]), ([0, 1, 5], [0, 1, 5]), ([6], [6]), ([7], [7]), ([7], [7]), ([8, 6, 0, 1, 2, 3, 4, 5, 6, 7, 8], [8]), ([9, 10, 0, 1, 2, 3, 4, 5, 6, 7, 8, 9, 10], [9])])
def firkinref20_Rows.B8 : List Nat := [0, 0, 0, 0, 12, 28, 63, 127, 255, 255, 511, 2047]
theorem firkinref20_Rows.tab8 : rtab .any (opsOf Try.f17 8) = firkinref20_Rows.T8 := by kernel_rfl
theorem firkinref20_Rows.bits8 : waitsOk firkinref20_Rows.T8.2 firkinref20_Rows.B8 = true := by kernel_rfl
set_option maxHeartbeats 8000000 in
set_option maxRecDepth 100000 in
theorem firkinref20_Rows.calls (k : Nat) (A0 : Option Addr) (c0 : Nat) (l0 : List (S64)) (a1_0 : Int) (a1_1 : ByteArray) (a1_2 : Int) (a1_3 : Bool) (a1_4 : Int) (a1_5 : ByteArray) (a1_6 : Int) (a1_7 : ByteArray) (A1_8 : Option Addr) (c1_8 : Nat) (l1_8 : List (S27)) (A2 : Option Addr) (c2 : Nat) (l2 : List (List (S24))) (r1 : List Int) (r2 : Int) (w : World) (hr0 : Kd.C k64 w A0 l0.length l0) (hc0 : l0.length ≤ c0) (hr1_8 : Kd.C k27 w A1_8 l1_8.length l1_8) (hc1_8 : l1_8.length ≤ c1_8) (hr2 : Kd.C (Kd.slice 24 k24) w A2 l2.length l2) (hc2 : l2.length ≤ c2) (h : firkinref20_Rows.f k l0 a1_0 a1_1 a1_2 a1_3 a1_4 a1_5 a1_6 a1_7 l1_8 l2 = some (r1, r2)) :
  Calls Try.prog 17 #[.slice A0 l0.length c0, .agg #[.int .i64 a1_0, .string a1_1, .int .i64 a1_2, .bool a1_3, .int .i64 a1_4, .string a1_5, .int .i64 a1_6, .string a1_7, .slice A1_8 l1_8.length c1_8], .slice A2 l2.length c2] w fun e w' => ∃ v0_ : Value, e = .returned (.tuple #[v0_, .int .i64 r2]) ∧ Kd.R (Kd.int .i64) 3 w' w.heap.size (fun _ => True) v0_ r1 ∧ Below w.heap.size w w' := by
 have hu27 := Try.underlying27
 have HR0 := Aside0.mk hr0
 have HC0 := Aside0.mk hc0
 clear hr0 hc0
 have HR1_8 := Aside0.mk hr1_8
 have HC1_8 := Aside0.mk hc1_8
 clear hr1_8 hc1_8
 have HR2 := Aside0.mk hr2
 have HC2 := Aside0.mk hc2
 clear hr2 hc2
 have HB := Aside0.mk (Below.refl w.heap.size w)
 have H : ((firkinref17_Fits.f k l0 a1_0 a1_1 a1_2 a1_3 a1_4 a1_5 a1_6 a1_7 l1_8).bind fun t399 => (if t399 = 0 then (firkinref20_Rows.l0 k l0 l2 (([] : List Int)) 0 a1_0 a1_1 a1_2 a1_3 a1_4 a1_5 a1_6 a1_7 l1_8) else (some (([] : List Int), t399)))) = some (r1, r2) := h
 clear h
 replace H := Option.bind_eq_some_iff.mp H
 obtain ⟨t399, A40, H⟩ := H
 replace H : (if t399 = 0 then (firkinref20_Rows.l0 k l0 l2 (([] : List Int)) 0 a1_0 a1_1 a1_2 a1_3 a1_4 a1_5 a1_6 a1_7 l1_8) else (some (([] : List Int), t399))) = some (r1, r2) := H
 have A4 := Aside0.mk A40
 clear A40
 by_cases c5 : t399 = 0
 ·rw [if_pos c5] at H
  have c5b0 : (t399 == 0) = true := beq_iff_eq.mpr c5
  have c5b1 : (t399 != 0) = false := bne_eq_false_iff_eq.mpr c5
  clear c5
  obtain ⟨y400, hy400⟩ : ∃ y_ : List Int, y_ = (([] : List Int)) := ⟨_, rfl⟩
  replace H : (firkinref20_Rows.l0 k l0 l2 y400 0 a1_0 a1_1 a1_2 a1_3 a1_4 a1_5 a1_6 a1_7 l1_8) = some (r1, r2) := by first | (rw [hy400]; with_reducible exact H) | (have H2_ := (Option.bind_some _ _).symm.trans H; rw [hy400]; with_reducible exact H2_) | (have H2_ := (Option.bind_some _ _).symm.trans H; with_reducible exact H2_) | with_reducible exact H | (rw [hy400]; exact H) | exact H
  have Ny400 := Aside0.mk hy400
  clear hy400
  have H' := Aside0.mk H
  clear H
  go_enter Try.func17, Try.ntmps17
  go_wp2_with (first | (refine bx_ (N := 4) (cs := #[.int .i64 a1_0, .string a1_1, .int .i64 a1_2, .bool a1_3, .int .i64 a1_4, .string a1_5, .int .i64 a1_6, .string a1_7, .slice A1_8 l1_8.length c1_8]) (t := 27) ?_; intro gb398 hg w6 hbox hb; have BK398 := Aside0.mk (hbox); have GW398 := ge_ HB hg; have GE398 := ge_ HB hg; replace HB := bs_ HB hb; clear hb hbox hg; obtain ⟨C7_0, C7_1, C7_2, C7_3, C7_4, C7_5, C7_6, C7_7, C7_8⟩ := zc9_ BK398.out; obtain ⟨F7_0, F7_1, F7_2, F7_3, F7_4, F7_5, F7_6, F7_7, F7_8⟩ := zf9_ BK398.out) | ((with_reducible refine gate_callee (f := 30) rfl ?_); refine gl_ (some 15) rfl Try.func30 #[.slice A0 l0.length c0, .agg #[.int .i64 a1_0, .string a1_1, .int .i64 a1_2, .bool a1_3, .int .i64 a1_4, .string a1_5, .int .i64 a1_6, .string a1_7, .slice A1_8 l1_8.length c1_8]] ?_; (with_reducible refine (firkinref17_Fits.calls k _ _ l0 a1_0 a1_1 a1_2 a1_3 a1_4 a1_5 a1_6 a1_7 _ _ l1_8 t399 _ ?side1 ?side2 ?side3 ?side4 A4.out).mono ?_); (case side1 => repeat (first | exact (Kd.C_below HR0.out HB.out) | (with_reducible refine Kd.C_alloc ?_ _) | (with_reducible refine Kd.C_drewN ?_ _) | (with_reducible refine Kd.C_drew ?_))); (case side2 => exact HC0.out); (case side3 => repeat (first | exact (Kd.C_below HR1_8.out HB.out) | (with_reducible refine Kd.C_alloc ?_ _) | (with_reducible refine Kd.C_drewN ?_ _) | (with_reducible refine Kd.C_drew ?_))); (case side4 => exact HC1_8.out); rintro e w8 ⟨rfl, hb⟩; refine ⟨_, rfl, ?_⟩;  replace BK398 := bk_ BK398 hb; replace HB := bs_ HB hb; (try clear hb); (try clear hb2); (try clear hk); (try clear hi)) | ((with_reducible refine gate_dst (N := 19) rfl ?_); refine Kd.R_lit (Kd.int .i64) _ 3 ?hg (N := 19) ?hd (xs := ([] : List Int)) (inner := []) (ok := fun _ => True) (okp := fun _ => True) ?hr ?hp (fun _ hk => hk) trivial (Below.refl _ _) (Nat.le_refl _) (by simp) ?_; (case hd => rfl); (case hg => rfl); (case hr => first | (go_simp; done) | (go_simp; rfl)); (case hp => exact (Reps.none _ _)); intro v401 w9 ho10 hb hg_ hnew_; clear hg_ hnew_; (first | rw [← Ny400.out] at ho10 | (simp only [Int.reduceToNat] at ho10; rw [← Ny400.out] at ho10)); have HO402 := Aside0.mk (Kd.R_lower ho10 (below_size (by repeat (first | (with_reducible first | exact HB.out | apply below_alloc | apply pw_below_drewN | apply below_drew1 | refine below_set ?_ GE398.out) | exact HB.out)))); replace BK398 := bk_ BK398 hb; replace HB := bs_ HB hb; clear hb ho10))
  go_loopg [9, 10] k (fun kq v9 v10 w' => ∃ (x9_1 : List Int) (x10_1 : Int), v10 = .int .i64 x10_1 ∧ Aside0 (firkinref20_Rows.l0 kq l0 l2 x9_1 x10_1 a1_0 a1_1 a1_2 a1_3 a1_4 a1_5 a1_6 a1_7 l1_8 = some (r1, r2)) ∧ Aside0 (kq ≤ k) ∧ Aside0 (Kd.R (Kd.int .i64) 3 w' w.heap.size (fun _ => True) v9 x9_1) ∧ Aside0 (w'.heap[gb398]? = some (.cells #[.int .i64 a1_0, .string a1_1, .int .i64 a1_2, .bool a1_3, .int .i64 a1_4, .string a1_5, .int .i64 a1_6, .string a1_7, (.slice A1_8 l1_8.length c1_8)] 27 (0, 0))) ∧ Aside0 (Below w.heap.size w w'))
  case atStart => exact ⟨_, _, (by first | rfl | (simp; done) | (simp [*]; done)), H', ⟨Nat.le_refl _⟩, ⟨by (with_reducible repeat (first | apply Kd.R_alloc | apply Kd.R_drewN | apply Kd.R_drew)); exact HO402.out⟩, ⟨by (with_reducible repeat (first | refine blk_drewN ?_ _ | refine blk_drew ?_ | refine blk_alloc ?_ _)); exact BK398.out⟩, ⟨by repeat (first | (with_reducible first | exact HB.out | apply below_alloc | apply pw_below_drewN | apply below_drew1 | refine below_set ?_ GE398.out) | exact HB.out)⟩⟩
  case round =>
   clear H'
   try clear c1
   try clear c2
   try clear p2
   try clear c3
   try clear c5
   try clear c5b0
   try clear c5b1
   try clear C7_0 C7_1 C7_2 C7_3 C7_4 C7_5 C7_6 C7_7 C7_8
   try clear F7_0 F7_1 F7_2 F7_3 F7_4 F7_5 F7_6 F7_7 F7_8
   obtain ⟨x9_1, x10_1, rfl, HA, HK1, HO_9, BK398, HB⟩ := hrel
   cases gk with
   | zero => exact absurd HA.out (by simp [firkinref20_Rows.l0])
   | succ k1 =>
    have H := HA.out
    clear HA
    simp only [firkinref20_Rows.l0] at H
    by_cases c11 : x10_1 < (l2.length : Int)
    ·rw [if_pos c11] at H
     have c11b0 : decide (x10_1 < (l2.length : Int)) = true := decide_eq_true c11
     clear c11
     by_cases c12 : 0 ≤ x10_1
     ·rw [if_pos c12] at H
      have c12b0 : decide (0 ≤ x10_1) = true := decide_eq_true c12
      clear c12
      replace H := Option.bind_eq_some_iff.mp H
      obtain ⟨⟨t404, t405⟩, A130, H⟩ := H
      replace H : (if t405 = 0 then (if t404 = 1 then (if x9_1.length < 17592186044416 then (firkinref20_Rows.l0 k1 l0 l2 (x9_1 ++ [x10_1]) (wrap64 (x10_1 + 1)) a1_0 a1_1 a1_2 a1_3 a1_4 a1_5 a1_6 a1_7 l1_8) else (none)) else (firkinref20_Rows.l0 k1 l0 l2 x9_1 (wrap64 (x10_1 + 1)) a1_0 a1_1 a1_2 a1_3 a1_4 a1_5 a1_6 a1_7 l1_8)) else (some (([] : List Int), t405))) = some (r1, r2) := H
      have A13 := Aside0.mk A130
      clear A130
      by_cases c14 : t405 = 0
      ·rw [if_pos c14] at H
       have c14b0 : (t405 == 0) = true := beq_iff_eq.mpr c14
       have c14b1 : (t405 != 0) = false := bne_eq_false_iff_eq.mpr c14
       clear c14
       by_cases c15 : t404 = 1
       ·rw [if_pos c15] at H
        have c15b0 : (t404 == 1) = true := beq_iff_eq.mpr c15
        have c15b1 : (t404 != 1) = false := bne_eq_false_iff_eq.mpr c15
        clear c15
        by_cases c16 : x9_1.length < 17592186044416
        ·rw [if_pos c16] at H
         have LMc16 := Aside0.mk c16
         clear c16
         obtain ⟨y406, hy406⟩ : ∃ y_ : List Int, y_ = (x9_1 ++ [x10_1]) := ⟨_, rfl⟩
         replace H : (firkinref20_Rows.l0 k1 l0 l2 y406 (wrap64 (x10_1 + 1)) a1_0 a1_1 a1_2 a1_3 a1_4 a1_5 a1_6 a1_7 l1_8) = some (r1, r2) := by first | (rw [hy406]; with_reducible exact H) | (have H2_ := (Option.bind_some _ _).symm.trans H; rw [hy406]; with_reducible exact H2_) | (have H2_ := (Option.bind_some _ _).symm.trans H; with_reducible exact H2_) | with_reducible exact H | (rw [hy406]; exact H) | exact H
         have Ny406 := Aside0.mk hy406
         clear hy406
         have H' := Aside0.mk H
         clear H
         try go_wp2
         replace HO_9 := Aside0.mk (Kd.R_drew HO_9.out); replace BK398 := Aside0.mk (blk_drew BK398.out); replace HB := Aside0.mk (below_drew1 HB.out)
         have p403 : 0 ≤ (x10_1 : Int) := dt_
         have q403 : x10_1 < (l2.length : Int) := dt_
         obtain ⟨ad403, A403_0, c403_0, e403, hx403_0, hl403_0, hi403_0⟩ := at_L8 HR2.out x10_1 p403 q403
         have hw403_0 := hx403_0
         cases e403
         replace hx403_0 := hc_ HB hx403_0
         have HR403_0 := Aside0.mk hi403_0
         have HC403_0 := Aside0.mk hl403_0
         clear hi403_0 hl403_0
         replace p403 := eq_true p403
         replace q403 := eq_true q403
         refine start_ (n := 12) (S := fun w' => w'.cell? ⟨gb398, 0, none⟩ = some (.int .i64 a1_0) ∧ w'.cell? ⟨gb398, 1, none⟩ = some (.string a1_1) ∧ w'.cell? ⟨gb398, 2, none⟩ = some (.int .i64 a1_2) ∧ w'.cell? ⟨gb398, 3, none⟩ = some (.bool a1_3) ∧ w'.cell? ⟨gb398, 4, none⟩ = some (.int .i64 a1_4) ∧ w'.cell? ⟨gb398, 5, none⟩ = some (.string a1_5) ∧ w'.cell? ⟨gb398, 6, none⟩ = some (.int .i64 a1_6) ∧ w'.cell? ⟨gb398, 7, none⟩ = some (.string a1_7) ∧ w'.cell? ⟨gb398, 8, none⟩ = some (.slice A1_8 l1_8.length c1_8) ∧ w'.cell? (ad403.add (x10_1).toNat) = some (.slice A403_0 (rd_L8 l2 x10_1).length c403_0)) (ds := []) #[false, false, false, false, false, false, false, false, false, false, false, false] (by kernel_rfl) rfl rfl ⟨(blk_cell BK398.out 0).trans rfl, (blk_cell BK398.out 1).trans rfl, (blk_cell BK398.out 2).trans rfl, (blk_cell BK398.out 3).trans rfl, (blk_cell BK398.out 4).trans rfl, (blk_cell BK398.out 5).trans rfl, (blk_cell BK398.out 6).trans rfl, (blk_cell BK398.out 7).trans rfl, (blk_cell BK398.out 8).trans rfl, ((HB.out.cell (World.block_lt_of_cell? w _ hw403_0)).trans hw403_0)⟩ (fun hHeld => ?_); refine with_tabW firkinref20_Rows.tab8 firkinref20_Rows.bits8 (fun HT_ HW_ => ?_)
         generalize wr.drew = w17 at HO_9 BK398 HB HR403_0 hx403_0 hHeld ⊢
         refine pu_ 0 (some 27) (bl_ 12 1) ?_
         refine pu_ 2 (some 29) (bl_ 12 5) ?_
         refine pu_ 3 (some 30) (bl_ 12 13) ?_
         refine pu_ 4 (some 31) (bl_ 12 29) ?_
         refine ta_ 1 (some 28) (bl_ 12 31) hHeld ?_
         refine ta_ 5 (some 32) (bl_ 12 63) hHeld ?_
         refine one_ (i := 6) (N := some 33) #[true, true, true, true, true, true, true, false, false, false, false, false] rfl rfl (one_of HT_.out (by kernel_rfl)) (by decide) (fun K hK => ?_)
         refine gs_ Try.func26 #[.slice A0 l0.length c0, .agg #[.int .i64 a1_0, .string a1_1, .int .i64 a1_2, .bool a1_3, .int .i64 a1_4, .string a1_5, .int .i64 a1_6, .string a1_7, .slice A1_8 l1_8.length c1_8], .slice A403_0 (rd_L8 l2 x10_1).length c403_0] ?_
         with_reducible refine (firkinref20_Row.calls k1 _ _ l0 a1_0 a1_1 a1_2 a1_3 a1_4 a1_5 a1_6 a1_7 _ _ l1_8 _ _ (rd_L8 l2 x10_1) t404 t405 _ ?side1 ?side2 ?side3 ?side4 ?side5 ?side6 A13.out).mono ?_
         (case side1 => repeat (first | exact (Kd.C_below HR0.out HB.out) | (with_reducible refine Kd.C_alloc ?_ _) | (with_reducible refine Kd.C_drewN ?_ _) | (with_reducible refine Kd.C_drew ?_)))
         (case side2 => exact HC0.out)
         (case side3 => repeat (first | exact (Kd.C_below HR1_8.out HB.out) | (with_reducible refine Kd.C_alloc ?_ _) | (with_reducible refine Kd.C_drewN ?_ _) | (with_reducible refine Kd.C_drew ?_)))
         (case side4 => exact HC1_8.out)
         (case side5 => repeat (first | exact (Kd.C_below HR403_0.out HB.out) | (with_reducible refine Kd.C_alloc ?_ _) | (with_reducible refine Kd.C_drewN ?_ _) | (with_reducible refine Kd.C_drew ?_)))
         (case side6 => exact HC403_0.out)
         rintro e w18 ⟨rfl, hb⟩
         refine ⟨_, rfl, ?_⟩
         replace HO_9 := Aside0.mk (Kd.R_below (by (with_reducible repeat (first | apply Kd.R_alloc | apply Kd.R_drewN | apply Kd.R_drew)); exact HO_9.out) hb); replace BK398 := bk_ BK398 hb; replace HB := bs_ HB hb
         (try clear hb)
         (try clear hb2)
         (try clear hk)
         (try clear hi)
         refine hK.out _ _ ⟨(blk_cell BK398.out 0).trans rfl, (blk_cell BK398.out 1).trans rfl, (blk_cell BK398.out 2).trans rfl, (blk_cell BK398.out 3).trans rfl, (blk_cell BK398.out 4).trans rfl, (blk_cell BK398.out 5).trans rfl, (blk_cell BK398.out 6).trans rfl, (blk_cell BK398.out 7).trans rfl, (blk_cell BK398.out 8).trans rfl, ((HB.out.cell (World.block_lt_of_cell? w _ hw403_0)).trans hw403_0)⟩ (fun hHeld => ?_)
         clear hK K
         refine norm_ (a' := ?_) ?_ ?_
         rotate_left
         ·show Act.put _ (some 33) _ = _
          simp only [Act.put, List.setIfInBounds_toArray, List.set_cons_zero, List.set_cons_succ, i64_w, i32_w]
          rfl
         refine pu_ 7 (some 26) (bl_ 12 255) ?_
         refine pu_ 8 (some 34) (bl_ 12 511) ?_
         refine pu_ 9 (some 35) (bl_ 12 1023) ?_
         refine pu_ 10 (some 11) (bl_ 12 2047) ?_
         refine pu_ 11 (some 12) (bl_ 12 4095) ?_
         refine done_ (done_of HT_.out (by kernel_rfl)) ?_
         try go_wp2_with (first | ((with_reducible refine gate_builtin (b := .append) (xs := #[.tmp 41, .tmp 43]) rfl ?_); at_builtin; refine Kd.R_append (Kd.int .i64) (w0 := w) w.heap.size rfl (.tmp 41) (.tmp 43) 46 3 (.int .i64 0) 8 rfl Try.underlying46 info3 rfl (by decide) (by omega) u9 x9_1 x10_1 [.int .i64 x10_1] (fun _ => True) (fun _ => False) rfl rfl ?aP (fun _ hk => hk.elim) ?aF ?aO ?aB ?aS ?aL ?_; (case aP => exact rfl); (case aB => exact (by repeat (first | (with_reducible first | exact HB.out | apply below_alloc | apply pw_below_drewN | apply below_drew1 | refine below_set ?_ GE398.out) | exact HB.out))); (case aF => exact (fun _ _ => trivial)); (case aO => exact (by (with_reducible repeat (first | apply Kd.R_alloc | apply Kd.R_drewN | apply Kd.R_drew)); exact HO_9.out)); (case aS => exact (below_size (by repeat (first | (with_reducible first | exact HB.out | apply below_alloc | apply pw_below_drewN | apply below_drew1 | refine below_set ?_ GE398.out) | exact HB.out)))); (case aL => have := LMc16.out; omega); intro v407 w19 ho hb hg hat; rw [← Ny406.out] at ho; have n0_ := Aside0.mk (blk_grown (by (with_reducible repeat (first | refine blk_drewN ?_ _ | refine blk_drew ?_ | refine blk_alloc ?_ _)); exact BK398.out) hg (Kd.R_ne HO_9.out BK398.out (by decide))); have n1_ := Aside0.mk (hb); have n2_ := Aside0.mk (ho); clear BK398; clear HB; clear HO_9; have BK398 := n0_; have HB := n1_; have HO408 := n2_; clear n0_ n1_ n2_; clear ho hb hg hat))
         go_roundg k1
         case measure => have := HK1.out; omega
         case rel => exact ⟨_, _, (by first | rfl | (simp; done) | (simp [*]; done)), H', ⟨by have := HK1.out; omega⟩, ⟨by (with_reducible repeat (first | apply Kd.R_alloc | apply Kd.R_drewN | apply Kd.R_drew)); exact HO408.out⟩, ⟨by (with_reducible repeat (first | refine blk_drewN ?_ _ | refine blk_drew ?_ | refine blk_alloc ?_ _)); exact BK398.out⟩, ⟨by repeat (first | (with_reducible first | exact HB.out | apply below_alloc | apply pw_below_drewN | apply below_drew1 | refine below_set ?_ GE398.out) | exact HB.out)⟩⟩
        ·rw [if_neg c16] at H
         exact absurd H (by simp)
       ·rw [if_neg c15] at H
        have c15b0 : (t404 == 1) = false := beq_eq_false_iff_ne.mpr c15
        have c15b1 : (t404 != 1) = true := bne_iff_ne.mpr c15
        have H' := Aside0.mk H
        clear H
        try go_wp2
        replace HO_9 := Aside0.mk (Kd.R_drew HO_9.out); replace BK398 := Aside0.mk (blk_drew BK398.out); replace HB := Aside0.mk (below_drew1 HB.out)
        have p403 : 0 ≤ (x10_1 : Int) := dt_
        have q403 : x10_1 < (l2.length : Int) := dt_
        obtain ⟨ad403, A403_0, c403_0, e403, hx403_0, hl403_0, hi403_0⟩ := at_L8 HR2.out x10_1 p403 q403
        have hw403_0 := hx403_0
        cases e403
        replace hx403_0 := hc_ HB hx403_0
        have HR403_0 := Aside0.mk hi403_0
        have HC403_0 := Aside0.mk hl403_0
        clear hi403_0 hl403_0
        replace p403 := eq_true p403
        replace q403 := eq_true q403
        refine start_ (n := 12) (S := fun w' => w'.cell? ⟨gb398, 0, none⟩ = some (.int .i64 a1_0) ∧ w'.cell? ⟨gb398, 1, none⟩ = some (.string a1_1) ∧ w'.cell? ⟨gb398, 2, none⟩ = some (.int .i64 a1_2) ∧ w'.cell? ⟨gb398, 3, none⟩ = some (.bool a1_3) ∧ w'.cell? ⟨gb398, 4, none⟩ = some (.int .i64 a1_4) ∧ w'.cell? ⟨gb398, 5, none⟩ = some (.string a1_5) ∧ w'.cell? ⟨gb398, 6, none⟩ = some (.int .i64 a1_6) ∧ w'.cell? ⟨gb398, 7, none⟩ = some (.string a1_7) ∧ w'.cell? ⟨gb398, 8, none⟩ = some (.slice A1_8 l1_8.length c1_8) ∧ w'.cell? (ad403.add (x10_1).toNat) = some (.slice A403_0 (rd_L8 l2 x10_1).length c403_0)) (ds := []) #[false, false, false, false, false, false, false, false, false, false, false, false] (by kernel_rfl) rfl rfl ⟨(blk_cell BK398.out 0).trans rfl, (blk_cell BK398.out 1).trans rfl, (blk_cell BK398.out 2).trans rfl, (blk_cell BK398.out 3).trans rfl, (blk_cell BK398.out 4).trans rfl, (blk_cell BK398.out 5).trans rfl, (blk_cell BK398.out 6).trans rfl, (blk_cell BK398.out 7).trans rfl, (blk_cell BK398.out 8).trans rfl, ((HB.out.cell (World.block_lt_of_cell? w _ hw403_0)).trans hw403_0)⟩ (fun hHeld => ?_); refine with_tabW firkinref20_Rows.tab8 firkinref20_Rows.bits8 (fun HT_ HW_ => ?_)
        generalize wr.drew = w20 at HO_9 BK398 HB HR403_0 hx403_0 hHeld ⊢
        refine pu_ 0 (some 27) (bl_ 12 1) ?_
        refine pu_ 2 (some 29) (bl_ 12 5) ?_
        refine pu_ 3 (some 30) (bl_ 12 13) ?_
        refine pu_ 4 (some 31) (bl_ 12 29) ?_
        refine ta_ 1 (some 28) (bl_ 12 31) hHeld ?_
        refine ta_ 5 (some 32) (bl_ 12 63) hHeld ?_
        refine one_ (i := 6) (N := some 33) #[true, true, true, true, true, true, true, false, false, false, false, false] rfl rfl (one_of HT_.out (by kernel_rfl)) (by decide) (fun K hK => ?_)
        refine gs_ Try.func26 #[.slice A0 l0.length c0, .agg #[.int .i64 a1_0, .string a1_1, .int .i64 a1_2, .bool a1_3, .int .i64 a1_4, .string a1_5, .int .i64 a1_6, .string a1_7, .slice A1_8 l1_8.length c1_8], .slice A403_0 (rd_L8 l2 x10_1).length c403_0] ?_
        with_reducible refine (firkinref20_Row.calls k1 _ _ l0 a1_0 a1_1 a1_2 a1_3 a1_4 a1_5 a1_6 a1_7 _ _ l1_8 _ _ (rd_L8 l2 x10_1) t404 t405 _ ?side1 ?side2 ?side3 ?side4 ?side5 ?side6 A13.out).mono ?_
        (case side1 => repeat (first | exact (Kd.C_below HR0.out HB.out) | (with_reducible refine Kd.C_alloc ?_ _) | (with_reducible refine Kd.C_drewN ?_ _) | (with_reducible refine Kd.C_drew ?_)))
        (case side2 => exact HC0.out)
        (case side3 => repeat (first | exact (Kd.C_below HR1_8.out HB.out) | (with_reducible refine Kd.C_alloc ?_ _) | (with_reducible refine Kd.C_drewN ?_ _) | (with_reducible refine Kd.C_drew ?_)))
        (case side4 => exact HC1_8.out)
        (case side5 => repeat (first | exact (Kd.C_below HR403_0.out HB.out) | (with_reducible refine Kd.C_alloc ?_ _) | (with_reducible refine Kd.C_drewN ?_ _) | (with_reducible refine Kd.C_drew ?_)))
        (case side6 => exact HC403_0.out)
        rintro e w21 ⟨rfl, hb⟩
        refine ⟨_, rfl, ?_⟩
        replace HO_9 := Aside0.mk (Kd.R_below (by (with_reducible repeat (first | apply Kd.R_alloc | apply Kd.R_drewN | apply Kd.R_drew)); exact HO_9.out) hb); replace BK398 := bk_ BK398 hb; replace HB := bs_ HB hb
        (try clear hb)
        (try clear hb2)
        (try clear hk)
        (try clear hi)
        refine hK.out _ _ ⟨(blk_cell BK398.out 0).trans rfl, (blk_cell BK398.out 1).trans rfl, (blk_cell BK398.out 2).trans rfl, (blk_cell BK398.out 3).trans rfl, (blk_cell BK398.out 4).trans rfl, (blk_cell BK398.out 5).trans rfl, (blk_cell BK398.out 6).trans rfl, (blk_cell BK398.out 7).trans rfl, (blk_cell BK398.out 8).trans rfl, ((HB.out.cell (World.block_lt_of_cell? w _ hw403_0)).trans hw403_0)⟩ (fun hHeld => ?_)
        clear hK K
        refine norm_ (a' := ?_) ?_ ?_
        rotate_left
        ·show Act.put _ (some 33) _ = _
         simp only [Act.put, List.setIfInBounds_toArray, List.set_cons_zero, List.set_cons_succ, i64_w, i32_w]
         rfl
        refine pu_ 7 (some 26) (bl_ 12 255) ?_
        refine pu_ 8 (some 34) (bl_ 12 511) ?_
        refine pu_ 9 (some 35) (bl_ 12 1023) ?_
        refine pu_ 10 (some 11) (bl_ 12 2047) ?_
        refine pu_ 11 (some 12) (bl_ 12 4095) ?_
        refine done_ (done_of HT_.out (by kernel_rfl)) ?_
        try go_wp2
        go_roundg k1
        case measure => have := HK1.out; omega
        case rel => exact ⟨_, _, (by first | rfl | (simp; done) | (simp [*]; done)), H', ⟨by have := HK1.out; omega⟩, ⟨by (with_reducible repeat (first | apply Kd.R_alloc | apply Kd.R_drewN | apply Kd.R_drew)); exact HO_9.out⟩, ⟨by (with_reducible repeat (first | refine blk_drewN ?_ _ | refine blk_drew ?_ | refine blk_alloc ?_ _)); exact BK398.out⟩, ⟨by repeat (first | (with_reducible first | exact HB.out | apply below_alloc | apply pw_below_drewN | apply below_drew1 | refine below_set ?_ GE398.out) | exact HB.out)⟩⟩
      ·rw [if_neg c14] at H
       have c14b0 : (t405 == 0) = false := beq_eq_false_iff_ne.mpr c14
       have c14b1 : (t405 != 0) = true := bne_iff_ne.mpr c14
       simp only [Option.some.injEq, Prod.mk.injEq] at H
       obtain ⟨rfl, rfl⟩ := H
       try go_wp2
       replace HO_9 := Aside0.mk (Kd.R_drew HO_9.out); replace BK398 := Aside0.mk (blk_drew BK398.out); replace HB := Aside0.mk (below_drew1 HB.out)
       have p403 : 0 ≤ (x10_1 : Int) := dt_
       have q403 : x10_1 < (l2.length : Int) := dt_
       obtain ⟨ad403, A403_0, c403_0, e403, hx403_0, hl403_0, hi403_0⟩ := at_L8 HR2.out x10_1 p403 q403
       have hw403_0 := hx403_0
       cases e403
       replace hx403_0 := hc_ HB hx403_0
       have HR403_0 := Aside0.mk hi403_0
       have HC403_0 := Aside0.mk hl403_0
       clear hi403_0 hl403_0
       replace p403 := eq_true p403
       replace q403 := eq_true q403
       refine start_ (n := 12) (S := fun w' => w'.cell? ⟨gb398, 0, none⟩ = some (.int .i64 a1_0) ∧ w'.cell? ⟨gb398, 1, none⟩ = some (.string a1_1) ∧ w'.cell? ⟨gb398, 2, none⟩ = some (.int .i64 a1_2) ∧ w'.cell? ⟨gb398, 3, none⟩ = some (.bool a1_3) ∧ w'.cell? ⟨gb398, 4, none⟩ = some (.int .i64 a1_4) ∧ w'.cell? ⟨gb398, 5, none⟩ = some (.string a1_5) ∧ w'.cell? ⟨gb398, 6, none⟩ = some (.int .i64 a1_6) ∧ w'.cell? ⟨gb398, 7, none⟩ = some (.string a1_7) ∧ w'.cell? ⟨gb398, 8, none⟩ = some (.slice A1_8 l1_8.length c1_8) ∧ w'.cell? (ad403.add (x10_1).toNat) = some (.slice A403_0 (rd_L8 l2 x10_1).length c403_0)) (ds := []) #[false, false, false, false, false, false, false, false, false, false, false, false] (by kernel_rfl) rfl rfl ⟨(blk_cell BK398.out 0).trans rfl, (blk_cell BK398.out 1).trans rfl, (blk_cell BK398.out 2).trans rfl, (blk_cell BK398.out 3).trans rfl, (blk_cell BK398.out 4).trans rfl, (blk_cell BK398.out 5).trans rfl, (blk_cell BK398.out 6).trans rfl, (blk_cell BK398.out 7).trans rfl, (blk_cell BK398.out 8).trans rfl, ((HB.out.cell (World.block_lt_of_cell? w _ hw403_0)).trans hw403_0)⟩ (fun hHeld => ?_); refine with_tabW firkinref20_Rows.tab8 firkinref20_Rows.bits8 (fun HT_ HW_ => ?_)
       generalize wr.drew = w22 at HO_9 BK398 HB HR403_0 hx403_0 hHeld ⊢
       refine pu_ 0 (some 27) (bl_ 12 1) ?_
       refine pu_ 2 (some 29) (bl_ 12 5) ?_
       refine pu_ 3 (some 30) (bl_ 12 13) ?_
       refine pu_ 4 (some 31) (bl_ 12 29) ?_
       refine ta_ 1 (some 28) (bl_ 12 31) hHeld ?_
       refine ta_ 5 (some 32) (bl_ 12 63) hHeld ?_
       refine one_ (i := 6) (N := some 33) #[true, true, true, true, true, true, true, false, false, false, false, false] rfl rfl (one_of HT_.out (by kernel_rfl)) (by decide) (fun K hK => ?_)
       refine gs_ Try.func26 #[.slice A0 l0.length c0, .agg #[.int .i64 a1_0, .string a1_1, .int .i64 a1_2, .bool a1_3, .int .i64 a1_4, .string a1_5, .int .i64 a1_6, .string a1_7, .slice A1_8 l1_8.length c1_8], .slice A403_0 (rd_L8 l2 x10_1).length c403_0] ?_
       with_reducible refine (firkinref20_Row.calls k1 _ _ l0 a1_0 a1_1 a1_2 a1_3 a1_4 a1_5 a1_6 a1_7 _ _ l1_8 _ _ (rd_L8 l2 x10_1) t404 t405 _ ?side1 ?side2 ?side3 ?side4 ?side5 ?side6 A13.out).mono ?_
       (case side1 => repeat (first | exact (Kd.C_below HR0.out HB.out) | (with_reducible refine Kd.C_alloc ?_ _) | (with_reducible refine Kd.C_drewN ?_ _) | (with_reducible refine Kd.C_drew ?_)))
       (case side2 => exact HC0.out)
       (case side3 => repeat (first | exact (Kd.C_below HR1_8.out HB.out) | (with_reducible refine Kd.C_alloc ?_ _) | (with_reducible refine Kd.C_drewN ?_ _) | (with_reducible refine Kd.C_drew ?_)))
       (case side4 => exact HC1_8.out)
       (case side5 => repeat (first | exact (Kd.C_below HR403_0.out HB.out) | (with_reducible refine Kd.C_alloc ?_ _) | (with_reducible refine Kd.C_drewN ?_ _) | (with_reducible refine Kd.C_drew ?_)))
       (case side6 => exact HC403_0.out)
       rintro e w23 ⟨rfl, hb⟩
       refine ⟨_, rfl, ?_⟩
       replace HO_9 := Aside0.mk (Kd.R_below (by (with_reducible repeat (first | apply Kd.R_alloc | apply Kd.R_drewN | apply Kd.R_drew)); exact HO_9.out) hb); replace BK398 := bk_ BK398 hb; replace HB := bs_ HB hb
       (try clear hb)
       (try clear hb2)
       (try clear hk)
       (try clear hi)
       refine hK.out _ _ ⟨(blk_cell BK398.out 0).trans rfl, (blk_cell BK398.out 1).trans rfl, (blk_cell BK398.out 2).trans rfl, (blk_cell BK398.out 3).trans rfl, (blk_cell BK398.out 4).trans rfl, (blk_cell BK398.out 5).trans rfl, (blk_cell BK398.out 6).trans rfl, (blk_cell BK398.out 7).trans rfl, (blk_cell BK398.out 8).trans rfl, ((HB.out.cell (World.block_lt_of_cell? w _ hw403_0)).trans hw403_0)⟩ (fun hHeld => ?_)
       clear hK K
       refine norm_ (a' := ?_) ?_ ?_
       rotate_left
       ·show Act.put _ (some 33) _ = _
        simp only [Act.put, List.setIfInBounds_toArray, List.set_cons_zero, List.set_cons_succ, i64_w, i32_w]
        rfl
       refine pu_ 7 (some 26) (bl_ 12 255) ?_
       refine pu_ 8 (some 34) (bl_ 12 511) ?_
       refine pu_ 9 (some 35) (bl_ 12 1023) ?_
       refine pu_ 10 (some 11) (bl_ 12 2047) ?_
       refine pu_ 11 (some 12) (bl_ 12 4095) ?_
       refine done_ (done_of HT_.out (by kernel_rfl)) ?_
       try go_wp2
       go_ret2
       exact ⟨_, by first | rfl | (simp [errW_none, errW_some] <;> rfl) | (simp [*, errW_none, errW_some] <;> rfl), by first | exact Kd.R_nil _ _ _ _ _ | exact Kd.N_nil _ _ _ _ _ | exact Kd.V_nil _ _ _ _ _ | exact Kd.Q_nil _ _ _ _ _ | exact Kd.S_nil _ _ _ _ _, by repeat (first | (with_reducible first | exact HB.out | apply below_alloc | apply pw_below_drewN | apply below_drew1 | refine below_set ?_ GE398.out) | exact HB.out)⟩
     ·rw [if_neg c12] at H
      exact absurd H (by simp)
    ·rw [if_neg c11] at H
     have c11b0 : decide (x10_1 < (l2.length : Int)) = false := decide_eq_false c11
     clear c11
     simp only [Option.some.injEq, Prod.mk.injEq] at H
     obtain ⟨rfl, rfl⟩ := H
     go_wp2
     go_ret2
     exact ⟨_, by first | rfl | (simp [errW_none, errW_some] <;> rfl) | (simp [*, errW_none, errW_some] <;> rfl), by (with_reducible repeat (first | apply Kd.R_alloc | apply Kd.R_drewN | apply Kd.R_drew)); exact HO_9.out, by repeat (first | (with_reducible first | exact HB.out | apply below_alloc | apply pw_below_drewN | apply below_drew1 | refine below_set ?_ GE398.out) | exact HB.out)⟩
 ·rw [if_neg c5] at H
  have c5b0 : (t399 == 0) = false := beq_eq_false_iff_ne.mpr c5
  have c5b1 : (t399 != 0) = true := bne_iff_ne.mpr c5
  simp only [Option.some.injEq, Prod.mk.injEq] at H
  obtain ⟨rfl, rfl⟩ := H
  go_enter Try.func17, Try.ntmps17
  go_wp2_with (first | (refine bx_ (N := 4) (cs := #[.int .i64 a1_0, .string a1_1, .int .i64 a1_2, .bool a1_3, .int .i64 a1_4, .string a1_5, .int .i64 a1_6, .string a1_7, .slice A1_8 l1_8.length c1_8]) (t := 27) ?_; intro gb398 hg w24 hbox hb; have BK398 := Aside0.mk (hbox); have GW398 := ge_ HB hg; have GE398 := ge_ HB hg; replace HB := bs_ HB hb; clear hb hbox hg; obtain ⟨C25_0, C25_1, C25_2, C25_3, C25_4, C25_5, C25_6, C25_7, C25_8⟩ := zc9_ BK398.out; obtain ⟨F25_0, F25_1, F25_2, F25_3, F25_4, F25_5, F25_6, F25_7, F25_8⟩ := zf9_ BK398.out) | ((with_reducible refine gate_callee (f := 30) rfl ?_); refine gl_ (some 15) rfl Try.func30 #[.slice A0 l0.length c0, .agg #[.int .i64 a1_0, .string a1_1, .int .i64 a1_2, .bool a1_3, .int .i64 a1_4, .string a1_5, .int .i64 a1_6, .string a1_7, .slice A1_8 l1_8.length c1_8]] ?_; (with_reducible refine (firkinref17_Fits.calls k _ _ l0 a1_0 a1_1 a1_2 a1_3 a1_4 a1_5 a1_6 a1_7 _ _ l1_8 t399 _ ?side1 ?side2 ?side3 ?side4 A4.out).mono ?_); (case side1 => repeat (first | exact (Kd.C_below HR0.out HB.out) | (with_reducible refine Kd.C_alloc ?_ _) | (with_reducible refine Kd.C_drewN ?_ _) | (with_reducible refine Kd.C_drew ?_))); (case side2 => exact HC0.out); (case side3 => repeat (first | exact (Kd.C_below HR1_8.out HB.out) | (with_reducible refine Kd.C_alloc ?_ _) | (with_reducible refine Kd.C_drewN ?_ _) | (with_reducible refine Kd.C_drew ?_))); (case side4 => exact HC1_8.out); rintro e w26 ⟨rfl, hb⟩; refine ⟨_, rfl, ?_⟩;  replace BK398 := bk_ BK398 hb; replace HB := bs_ HB hb; (try clear hb); (try clear hb2); (try clear hk); (try clear hi)))
  go_ret2
  exact ⟨_, by first | rfl | (simp [errW_none, errW_some] <;> rfl) | (simp [*, errW_none, errW_some] <;> rfl), by first | exact Kd.R_nil _ _ _ _ _ | exact Kd.N_nil _ _ _ _ _ | exact Kd.V_nil _ _ _ _ _ | exact Kd.Q_nil _ _ _ _ _ | exact Kd.S_nil _ _ _ _ _, by repeat (first | (with_reducible first | exact HB.out | apply below_alloc | apply pw_below_drewN | apply below_drew1 | refine below_set ?_ GE398.out) | exact HB.out)⟩
end Go.Proofs.Ytdedmhmomoejkaa.X
namespace Go.Proofs.Ytdedmhmomoejkaa.X
open Go.RowKit Go.Proofs.YtdedmhmomoejkaaW.PrintWords Go.Proofs.YtdedmhmomoejkaaW.PrintLast
set_option linter.unusedVariables false
set_option linter.unusedSimpArgs false
theorem rdL8_get (l : List (List S24)) (i : Nat) (h : i < l.length) : rd_L8 l (i : Int) = l[i] := by
  simp only [rd_L8, Int.toNat_natCast, List.getD_eq_getElem?_getD, List.getElem?_eq_getElem h, Option.getD_some]
def rowFrom (l0 : List S64) (l1 : List S24) : Nat → Nat → Bool
  | 0, _ => true
  | n + 1, i => (cell_May.f (rd_T64 l0 (i : Int)).f1 (rd_T64 l0 (i : Int)).f2 (rd_T24 l1 (i : Int)).f0 (rd_T24 l1 (i : Int)).f1 (rd_T24 l1 (i : Int)).f2).getD false && rowFrom l0 l1 n (i + 1)
def rowB (l0 : List S64) (l1 : List S24) : Bool := decide (l0.length = l1.length) && rowFrom l0 l1 l0.length 0
theorem rowFrom_all (l0 : List S64) (l1 : List S24) : ∀ (n i : Nat), rowFrom l0 l1 n i = true → ∀ j, i ≤ j → j < i + n →
    cell_May.f (rd_T64 l0 (j : Int)).f1 (rd_T64 l0 (j : Int)).f2 (rd_T24 l1 (j : Int)).f0 (rd_T24 l1 (j : Int)).f1 (rd_T24 l1 (j : Int)).f2 = some true
  | 0, i, _, j, h1, h2 => by omega
  | n + 1, i, h, j, h1, h2 => by
    rw [rowFrom, Bool.and_eq_true] at h
    by_cases e : j = i
    · subst e
      obtain ⟨b, hb⟩ := cellMay_ans (rd_T64 l0 (j : Int)).f1 (rd_T64 l0 (j : Int)).f2 (rd_T24 l1 (j : Int)).f0 (rd_T24 l1 (j : Int)).f1 (rd_T24 l1 (j : Int)).f2
      have h0 := h.1
      rw [hb] at h0 ⊢
      exact congrArg some h0
    · exact rowFrom_all l0 l1 n (i + 1) h.2 j (by omega) (by omega)
theorem rowA (l0 : List S64) (l1 : List S24) (hl : l0.length ≤ 9223372036854775806) : TotP (fun r => r = rowB l0 l1) (fun k => schema_Row.f k l0 l1) := by
  unfold schema_Row.f rowB
  refine TotP.ite (fun he => ?_) (fun he => TotP.some_ (by rw [decide_eq_false (by omega)]; rfl))
  rw [decide_eq_true (by omega), Bool.true_and]
  have key : ∀ (n i : Nat), i + n = l0.length → TotP (fun r => r = rowFrom l0 l1 n i) (fun k => schema_Row.l0 k l1 l0 (l0.length : Int) (i : Int)) := by
    intro n
    induction n with
    | zero =>
      intro i hi
      refine TotP.succ (fun k => by simp only [schema_Row.l0]; rfl) ?_
      exact TotP.ite (fun h => absurd h (by omega)) (fun _ => TotP.some_ rfl)
    | succ n ih =>
      intro i hi
      refine TotP.succ (fun k => by simp only [schema_Row.l0]; rfl) ?_
      refine TotP.ite (fun _ => ?_) (fun h => absurd (by omega) h)
      refine TotP.ite (fun _ => ?_) (fun h => absurd (by omega) h)
      refine TotP.ite (fun _ => ?_) (fun h => absurd (by omega) h)
      refine TotP.ite (fun _ => ?_) (fun h => absurd (by omega) h)
      rw [rowFrom]
      obtain ⟨b, hb⟩ := cellMay_ans (rd_T64 l0 (i : Int)).f1 (rd_T64 l0 (i : Int)).f2 (rd_T24 l1 (i : Int)).f0 (rd_T24 l1 (i : Int)).f1 (rd_T24 l1 (i : Int)).f2
      rw [hb]
      simp only [Option.bind_some, Option.getD_some]
      rw [wrap_in (by omega) (by omega), show (i : Int) + 1 = ((i + 1 : Nat) : Int) by omega]
      exact TotP.ite (fun h => (ih (i + 1) (by omega)).weak (fun r hr => by rw [hr, h, Bool.true_and])) (fun h => TotP.some_ (by rw [show b = false by simpa using h]; rfl))
  simpa using key l0.length 0 (by omega)
theorem row12 (l0 : List S64) (l1 : List S24) (hl : l0.length ≤ 9223372036854775806) : TotP (fun r => r = rowB l0 l1) (fun k => firkinref12_Row.f k l0 l1) := by
  unfold firkinref12_Row.f rowB
  refine TotP.ite (fun he => ?_) (fun he => TotP.some_ (by rw [decide_eq_false (by omega)]; rfl))
  rw [decide_eq_true (by omega), Bool.true_and]
  have key : ∀ (n i : Nat), i + n = l0.length → TotP (fun r => r = rowFrom l0 l1 n i) (fun k => firkinref12_Row.l0 k l0 l1 (i : Int)) := by
    intro n
    induction n with
    | zero =>
      intro i hi
      refine TotP.succ (fun k => by simp only [firkinref12_Row.l0]; rfl) ?_
      exact TotP.ite (fun h => absurd h (by omega)) (fun _ => TotP.some_ rfl)
    | succ n ih =>
      intro i hi
      refine TotP.succ (fun k => by simp only [firkinref12_Row.l0]; rfl) ?_
      refine TotP.ite (fun _ => ?_) (fun h => absurd (by omega) h)
      refine TotP.ite (fun _ => ?_) (fun h => absurd (by omega) h)
      refine TotP.ite (fun _ => ?_) (fun h => absurd (by omega) h)
      rw [rowFrom]
      refine TotP.bind (may09 _ _ _ _ _) (fun b hb => ?_)
      rw [hb]
      simp only [Option.getD_some]
      rw [wrap_in (by omega) (by omega), show (i : Int) + 1 = ((i + 1 : Nat) : Int) by omega]
      exact TotP.ite (fun h => (ih (i + 1) (by omega)).weak (fun r hr => by rw [hr, h, Bool.true_and])) (fun h => TotP.some_ (by rw [show b = false by simpa using h]; rfl))
  simpa using key l0.length 0 (by omega)
theorem rowB_all (l0 : List S64) (l1 : List S24) (h : rowB l0 l1 = true) : l0.length = l1.length ∧ ∀ i : Nat, i < l0.length →
    cell_May.f (rd_T64 l0 (i : Int)).f1 (rd_T64 l0 (i : Int)).f2 (rd_T24 l1 (i : Int)).f0 (rd_T24 l1 (i : Int)).f1 (rd_T24 l1 (i : Int)).f2 = some true := by
  unfold rowB at h
  rw [Bool.and_eq_true] at h
  exact ⟨of_decide_eq_true h.1, fun i hi => rowFrom_all l0 l1 _ _ h.2 i (by omega) (by omega)⟩
def ansE (l0 : List S64) (x : S27) (r : List S24) : Int × Int := if fitsE l0 x = 0 then (if rowB l0 r = true then (ask3 l0 r 6 x, 0) else (0, 10)) else (0, fitsE l0 x)
theorem evRow (l0 : List S64) (x : S27) (r : List S24) (hl : l0.length ≤ 9223372036854775806) (hL : Lens 6 x) :
    TotP (fun a => a = ansE l0 x r) (fun k => eval_Row.f k l0 x.f0 x.f1 x.f2 x.f3.f0 x.f3.f1 x.f3.f2 x.f4 x.f5 x.f6 r) := by
  unfold eval_Row.f ansE
  simp only [pred_Fits.f, Option.bind_some]
  refine TotP.ite (fun h0 => ?_) (fun h0 => TotP.some_ (if_neg (show ¬ fitsE l0 x = 0 from h0)).symm)
  rw [if_pos (show fitsE l0 x = 0 from h0)]
  obtain ⟨hm, ht⟩ := fits_good3 l0 x h0
  refine TotP.bind (rowA l0 r hl) (fun b hb => ?_)
  subst hb
  refine TotP.ite (fun g => ?_) (fun g => TotP.some_ (by rw [if_neg g]))
  obtain ⟨hz, hc⟩ := rowB_all l0 r g
  exact TotP.bind (ask3_tot l0 r hz hc 6 x hL hm ht) (fun t ht => TotP.some_ (by rw [if_pos g, ht]))
theorem refRow (l0 : List S64) (x : S27) (r : List S24) (hl : l0.length ≤ 9223372036854775806) (hs : ∀ y, y ∈ l0 → y.f0.size ≤ 9223372036854775806) (hL : Fine 6 x) :
    TotP (fun a => a = ansE l0 x r) (fun k => firkinref20_Row.f k l0 x.f0 x.f1 x.f2 x.f3.f0 x.f3.f1 x.f3.f2 x.f4 x.f5 x.f6 r) := by
  unfold firkinref20_Row.f ansE
  refine TotP.bind (fits17 l0 x hl hs hL) (fun e he => ?_)
  subst he
  refine TotP.ite (fun h0 => ?_) (fun h0 => TotP.some_ (if_neg h0).symm)
  rw [if_pos h0]
  obtain ⟨hm, ht⟩ := fits_good3 l0 x h0
  refine TotP.bind (row12 l0 r hl) (fun b hb => ?_)
  subst hb
  refine TotP.ite (fun g => ?_) (fun g => TotP.some_ (by rw [if_neg g]))
  obtain ⟨hz, hc⟩ := rowB_all l0 r g
  exact TotP.bind (truth20 l0 r hz hl hc 6 x (Fine.lens 6 x hL) hm ht) (fun t ht => TotP.some_ (by rw [if_pos g, ht]))
def rowsA (f : List S24 → Int × Int) : List (List S24) → Int → List Int → List Int × Int
  | [], _, acc => (acc, 0)
  | r :: rs, i, acc => if (f r).2 = 0 then (if (f r).1 = 1 then rowsA f rs (i + 1) (acc ++ [i]) else rowsA f rs (i + 1) acc) else ([], (f r).2)
def ansR (l0 : List S64) (x : S27) (l2 : List (List S24)) : List Int × Int := if fitsE l0 x = 0 then rowsA (ansE l0 x) l2 0 [] else ([], fitsE l0 x)
theorem evRows (l0 : List S64) (x : S27) (l2 : List (List S24)) (hl : l0.length ≤ 9223372036854775806) (h2 : l2.length ≤ 210) (hL : Lens 6 x) :
    TotP (fun a => a = ansR l0 x l2) (fun k => eval_Rows.f k l0 x.f0 x.f1 x.f2 x.f3.f0 x.f3.f1 x.f3.f2 x.f4 x.f5 x.f6 l2) := by
  unfold eval_Rows.f ansR
  simp only [pred_Fits.f, Option.bind_some]
  refine TotP.ite (fun h0 => ?_) (fun h0 => TotP.some_ (if_neg (show ¬ fitsE l0 x = 0 from h0)).symm)
  rw [if_pos (show fitsE l0 x = 0 from h0)]
  have key : ∀ (n i : Nat) (acc : List Int), i + n = l2.length → acc.length ≤ i → TotP (fun a => a = rowsA (ansE l0 x) (l2.drop i) (i : Int) acc) (fun k => eval_Rows.l0 k l0 acc l2 (l2.length : Int) (i : Int) x.f0 x.f1 x.f2 x.f3.f0 x.f3.f1 x.f3.f2 x.f4 x.f5 x.f6) := by
    intro n
    induction n with
    | zero =>
      intro i acc hi ha
      refine TotP.succ (fun k => by simp only [eval_Rows.l0]; rfl) ?_
      refine TotP.ite (fun h => absurd h (by omega)) (fun _ => TotP.some_ ?_)
      rw [List.drop_of_length_le (by omega)]; rfl
    | succ n ih =>
      intro i acc hi ha
      refine TotP.succ (fun k => by simp only [eval_Rows.l0]; rfl) ?_
      refine TotP.ite (fun _ => ?_) (fun h => absurd (by omega) h)
      refine TotP.ite (fun _ => ?_) (fun h => absurd (by omega) h)
      refine TotP.ite (fun _ => ?_) (fun h => absurd (by omega) h)
      refine TotP.bind (evRow l0 x _ hl hL) (fun t ht => ?_)
      rw [rdL8_get l2 i (by omega)] at ht
      rw [wrap_in (by omega) (by omega), show (i : Int) + 1 = ((i + 1 : Nat) : Int) by omega]
      rw [List.drop_eq_getElem_cons (show i < l2.length by omega), rowsA, ← ht, show (i : Int) + 1 = ((i + 1 : Nat) : Int) by omega]
      refine TotP.ite (fun h2 => ?_) (fun h2 => TotP.some_ (by rw [if_neg h2]))
      rw [if_pos h2]
      refine TotP.ite (fun h1 => ?_) (fun h1 => ?_)
      · rw [if_pos h1]
        exact TotP.ite (fun _ => ih (i + 1) _ (by omega) (by simp; omega)) (fun h => absurd (by omega) h)
      · rw [if_neg h1]
        exact ih (i + 1) _ (by omega) (by omega)
  simpa using key l2.length 0 [] (by omega) (by simp)
theorem refRows (l0 : List S64) (x : S27) (l2 : List (List S24)) (hl : l0.length ≤ 9223372036854775806) (hs : ∀ y, y ∈ l0 → y.f0.size ≤ 9223372036854775806) (h2 : l2.length ≤ 210) (hL : Fine 6 x) :
    TotP (fun a => a = ansR l0 x l2) (fun k => firkinref20_Rows.f k l0 x.f0 x.f1 x.f2 x.f3.f0 x.f3.f1 x.f3.f2 x.f4 x.f5 x.f6 l2) := by
  unfold firkinref20_Rows.f ansR
  refine TotP.bind (fits17 l0 x hl hs hL) (fun e he => ?_)
  subst he
  refine TotP.ite (fun h0 => ?_) (fun h0 => TotP.some_ (if_neg h0).symm)
  rw [if_pos h0]
  have key : ∀ (n i : Nat) (acc : List Int), i + n = l2.length → acc.length ≤ i → TotP (fun a => a = rowsA (ansE l0 x) (l2.drop i) (i : Int) acc) (fun k => firkinref20_Rows.l0 k l0 l2 acc (i : Int) x.f0 x.f1 x.f2 x.f3.f0 x.f3.f1 x.f3.f2 x.f4 x.f5 x.f6) := by
    intro n
    induction n with
    | zero =>
      intro i acc hi ha
      refine TotP.succ (fun k => by simp only [firkinref20_Rows.l0]; rfl) ?_
      refine TotP.ite (fun h => absurd h (by omega)) (fun _ => TotP.some_ ?_)
      rw [List.drop_of_length_le (by omega)]; rfl
    | succ n ih =>
      intro i acc hi ha
      refine TotP.succ (fun k => by simp only [firkinref20_Rows.l0]; rfl) ?_
      refine TotP.ite (fun _ => ?_) (fun h => absurd (by omega) h)
      refine TotP.ite (fun _ => ?_) (fun h => absurd (by omega) h)
      refine TotP.bind (refRow l0 x _ hl hs hL) (fun t ht => ?_)
      rw [rdL8_get l2 i (by omega)] at ht
      rw [wrap_in (by omega) (by omega), show (i : Int) + 1 = ((i + 1 : Nat) : Int) by omega]
      rw [List.drop_eq_getElem_cons (show i < l2.length by omega), rowsA, ← ht, show (i : Int) + 1 = ((i + 1 : Nat) : Int) by omega]
      refine TotP.ite (fun h2 => ?_) (fun h2 => TotP.some_ (by rw [if_neg h2]))
      rw [if_pos h2]
      refine TotP.ite (fun h1 => ?_) (fun h1 => ?_)
      · rw [if_pos h1]
        exact TotP.ite (fun _ => ih (i + 1) _ (by omega) (by simp; omega)) (fun h => absurd (by omega) h)
      · rw [if_neg h1]
        exact ih (i + 1) _ (by omega) (by omega)
  simpa using key l2.length 0 [] (by omega) (by simp)
theorem rowsA_len (f : List S24 → Int × Int) : ∀ (l : List (List S24)) (i : Int) (acc : List Int), (rowsA f l i acc).1.length ≤ acc.length + l.length
  | [], _, acc => by simp [rowsA]
  | r :: rs, i, acc => by
    rw [rowsA]
    split
    · split
      · have := rowsA_len f rs (i + 1) (acc ++ [i])
        simp only [List.length_append, List.length_cons, List.length_nil] at this ⊢
        omega
      · have := rowsA_len f rs (i + 1) acc
        simp only [List.length_cons] at this ⊢
        omega
    · simp
end Go.Proofs.Ytdedmhmomoejkaa.X
namespace Go.Proofs.Ytdedmhmomoejkaa.X
open Go.RowKit Go.Proofs.YtdedmhmomoejkaaW.PrintWords Go.Proofs.YtdedmhmomoejkaaW.PrintLast Go.Proofs.YtdedmhmomoejkaaW.PrintMore
attribute [local go_sem] max2_int max_two
set_option linter.unusedVariables false
set_option linter.unusedSimpArgs false
def firkinref01_Ints.l0 : Nat → List Int → List Int → Int → Option (Bool)
 | 0, _, _, _ => none
 | k + 1, x0, x1, x5 => if x5 < (x0.length : Int) then (if 0 ≤ x5 then (if x5 < (x1.length : Int) then (if (rd x0 x5) = (rd x1 x5) then (firkinref01_Ints.l0 k x0 x1 (wrap64 (x5 + 1))) else (some false)) else (none)) else (none)) else (some true)
def firkinref01_Ints.f (k : Nat) (l0 : List Int) (l1 : List Int) : Option (Bool) := if (l0.length : Int) = (l1.length : Int) then (firkinref01_Ints.l0 k l0 l1 0) else (some false)
theorem firkinref01_Ints.mono_l : ∀ k, (∀ y0 y1 y2, LeO (firkinref01_Ints.l0 k y0 y1 y2) (firkinref01_Ints.l0 (k + 1) y0 y1 y2))
 | 0 => fun _ _ _ r h => by simp [firkinref01_Ints.l0] at h
 | k + 1 => by
  have ih0 := firkinref01_Ints.mono_l k
  ·intro y0 y1 y2
   unfold firkinref01_Ints.l0
   repeat' first
   | (with_reducible exact ih0 _ _ _)
   | (with_reducible exact LeO.refl _)
   | (with_reducible exact LeO.none _)
   | (with_reducible refine LeO.ite ?_ ?_)
   | (with_reducible refine LeO.bind ?_ (fun _ => ?_))
   | exact ih0 _ _ _
   | exact LeO.none _
   | refine LeO.ite ?_ ?_
   | refine LeO.bind ?_ (fun _ => ?_)
theorem firkinref01_Ints.mono : ∀ a0 a1 k, LeO (firkinref01_Ints.f k a0 a1) (firkinref01_Ints.f (k + 1) a0 a1) := by
 intro a0 a1 k
 have ih0 := firkinref01_Ints.mono_l k
 unfold firkinref01_Ints.f
 repeat' first
   | (with_reducible exact ih0 _ _ _)
   | (with_reducible exact LeO.refl _)
   | (with_reducible exact LeO.none _)
   | (with_reducible refine LeO.ite ?_ ?_)
   | (with_reducible refine LeO.bind ?_ (fun _ => ?_))
   | exact ih0 _ _ _
   | exact LeO.none _
   | refine LeO.ite ?_ ?_
   | refine LeO.bind ?_ (fun _ => ?_)
set_option maxHeartbeats 8000000 in
set_option maxRecDepth 100000 in
theorem firkinref01_Ints.calls (k : Nat) (A0 : Option Addr) (c0 : Nat) (l0 : List Int) (A1 : Option Addr) (c1 : Nat) (l1 : List Int) (r : Bool) (w : World) (hr0 : Kd.C (Kd.int .i64) w A0 l0.length l0) (hc0 : l0.length ≤ c0) (hr1 : Kd.C (Kd.int .i64) w A1 l1.length l1) (hc1 : l1.length ≤ c1) (h : firkinref01_Ints.f k l0 l1 = some r) :
  Calls Try.prog 25 #[.slice A0 l0.length c0, .slice A1 l1.length c1] w fun e w' => e = .returned (.bool r) ∧ Drawn0 w w' := by
 have HR0 := Aside0.mk hr0
 have HC0 := Aside0.mk hc0
 clear hr0 hc0
 have HR1 := Aside0.mk hr1
 have HC1 := Aside0.mk hc1
 clear hr1 hc1
 have H : (if (l0.length : Int) = (l1.length : Int) then (firkinref01_Ints.l0 k l0 l1 0) else (some false)) = some r := h
 clear h
 by_cases c3 : (l0.length : Int) = (l1.length : Int)
 ·rw [if_pos c3] at H
  have c3b0 : ((l0.length : Int) == (l1.length : Int)) = true := beq_iff_eq.mpr c3
  have c3b1 : ((l0.length : Int) != (l1.length : Int)) = false := bne_eq_false_iff_eq.mpr c3
  have c3b2 : (l0.length == l1.length) = true := by first | simpa using c3 | (simp at c3 ⊢; omega)
  clear c3
  have H' := Aside0.mk H
  clear H
  go_enter Try.func25, Try.ntmps25
  go_wp2
  repeat (go_quiet (fail); try go_wp2)
  go_loopg [5] k (fun kq v5 w' => ∃ (x5_1 : Int), v5 = .int .i64 x5_1 ∧ Aside0 (firkinref01_Ints.l0 kq l0 l1 x5_1 = some r) ∧ Aside0 (kq ≤ k) ∧ Drawn0 w w')
  case atStart => exact ⟨_, (by first | rfl | (simp; done) | (simp [*]; done)), H', ⟨Nat.le_refl _⟩, by repeat (first | exact Drawn0.refl _ | apply Drawn0.step)⟩
  case round =>
   clear H'
   try clear c1
   try clear c2
   try clear p2
   try clear c3
   try clear c3b0
   try clear c3b1
   try clear c3b2
   obtain ⟨x5_1, rfl, HA, HK1, ⟨m1, rfl⟩⟩ := hrel
   cases gk with
   | zero => exact absurd HA.out (by simp [firkinref01_Ints.l0])
   | succ k1 =>
    have H := HA.out
    clear HA
    simp only [firkinref01_Ints.l0] at H
    by_cases c4 : x5_1 < (l0.length : Int)
    ·rw [if_pos c4] at H
     have c4b0 : decide (x5_1 < (l0.length : Int)) = true := decide_eq_true c4
     clear c4
     by_cases c5 : 0 ≤ x5_1
     ·rw [if_pos c5] at H
      have c5b0 : decide (0 ≤ x5_1) = true := decide_eq_true c5
      clear c5
      by_cases c6 : x5_1 < (l1.length : Int)
      ·rw [if_pos c6] at H
       have c6b0 : decide (x5_1 < (l1.length : Int)) = true := decide_eq_true c6
       clear c6
       by_cases c7 : (rd l0 x5_1) = (rd l1 x5_1)
       ·rw [if_pos c7] at H
        have c7b0 : ((rd l0 x5_1) == (rd l1 x5_1)) = true := beq_iff_eq.mpr c7
        have c7b1 : ((rd l0 x5_1) != (rd l1 x5_1)) = false := bne_eq_false_iff_eq.mpr c7
        clear c7
        have H' := Aside0.mk H
        clear H
        have p557 : 0 ≤ (x5_1 : Int) := dt_
        have q557 : x5_1 < (l0.length : Int) := dt_
        obtain ⟨ad557, e557, hx557_0⟩ := Kd.at_int HR0.out x5_1 p557 q557
        cases e557
        replace p557 := eq_true p557
        replace q557 := eq_true q557
        have p558 : 0 ≤ (x5_1 : Int) := dt_
        have q558 : x5_1 < (l1.length : Int) := dt_
        obtain ⟨ad558, e558, hx558_0⟩ := Kd.at_int HR1.out x5_1 p558 q558
        cases e558
        replace p558 := eq_true p558
        replace q558 := eq_true q558
        go_wp2
        repeat (go_quiet (fail); try go_wp2)
        go_roundg k1
        case measure => have := HK1.out; omega
        case rel => exact ⟨_, (by first | rfl | (simp; done) | (simp [*]; done)), H', ⟨by have := HK1.out; omega⟩, by repeat (first | exact Drawn0.refl _ | apply Drawn0.step)⟩
       ·rw [if_neg c7] at H
        have c7b0 : ((rd l0 x5_1) == (rd l1 x5_1)) = false := beq_eq_false_iff_ne.mpr c7
        have c7b1 : ((rd l0 x5_1) != (rd l1 x5_1)) = true := bne_iff_ne.mpr c7
        obtain rfl := Option.some.inj H
        have p557 : 0 ≤ (x5_1 : Int) := dt_
        have q557 : x5_1 < (l0.length : Int) := dt_
        obtain ⟨ad557, e557, hx557_0⟩ := Kd.at_int HR0.out x5_1 p557 q557
        cases e557
        replace p557 := eq_true p557
        replace q557 := eq_true q557
        have p558 : 0 ≤ (x5_1 : Int) := dt_
        have q558 : x5_1 < (l1.length : Int) := dt_
        obtain ⟨ad558, e558, hx558_0⟩ := Kd.at_int HR1.out x5_1 p558 q558
        cases e558
        replace p558 := eq_true p558
        replace q558 := eq_true q558
        go_wp2
        repeat (go_quiet (fail); try go_wp2)
        go_ret
        exact ⟨by first | rfl | (simp; done) | (simp [*]; done), by repeat (first | exact Drawn0.refl _ | apply Drawn0.step)⟩
      ·rw [if_neg c6] at H
       exact absurd H (by simp)
     ·rw [if_neg c5] at H
      exact absurd H (by simp)
    ·rw [if_neg c4] at H
     have c4b0 : decide (x5_1 < (l0.length : Int)) = false := decide_eq_false c4
     clear c4
     obtain rfl := Option.some.inj H
     go_wp2
     repeat (go_quiet (fail); try go_wp2)
     go_ret
     exact ⟨by first | rfl | (simp; done) | (simp [*]; done), by repeat (first | exact Drawn0.refl _ | apply Drawn0.step)⟩
 ·rw [if_neg c3] at H
  have c3b0 : ((l0.length : Int) == (l1.length : Int)) = false := beq_eq_false_iff_ne.mpr c3
  have c3b1 : ((l0.length : Int) != (l1.length : Int)) = true := bne_iff_ne.mpr c3
  have c3b2 : (l0.length == l1.length) = false := by first | simpa using c3 | (simp at c3 ⊢; omega)
  obtain rfl := Option.some.inj H
  go_enter Try.func25, Try.ntmps25
  go_wp2
  repeat (go_quiet (fail); try go_wp2)
  go_ret
  exact ⟨by first | rfl | (simp; done) | (simp [*]; done), by repeat (first | exact Drawn0.refl _ | apply Drawn0.step)⟩
end Go.Proofs.Ytdedmhmomoejkaa.X
