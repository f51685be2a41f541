/- Words and walks for X.pruneSafe_holds, part 6 of the texts that a program of this session laid together. -/
import Derived.Test.YtdedmhmomoejkaaS1
import Derived.Test.YtdedmhmomoejkaaS2
import Derived.Test.YtdedmhmomoejkaaS3
import Derived.Test.YtdedmhmomoejkaaS5
namespace Go.Proofs.Ytdedmhmomoejkaa.X
set_option maxHeartbeats 8000000
set_option maxRecDepth 100000
open Go.RowKit Go.Proofs.YtdedmhmomoejkaaW.PrintWords Go.Proofs.YtdedmhmomoejkaaW.PrintLast Go.Proofs.YtdedmhmomoejkaaW.PrintMore
attribute [local go_sem] max2_int max_two
set_option linter.unusedVariables false
set_option linter.unusedSimpArgs false
def Bo.l0 : Nat → List (S64) → List (S33) → List (S33) → Int → Int → Int → ByteArray → Int → Bool → Int → ByteArray → Int → ByteArray → List (S27) → Option (Bool × Bool × Bool × Int)
 | 0, _, _, _, _, _, _, _, _, _, _, _, _, _, _ => none
 | k + 1, x0, x2, x24, x25, x26, x221000, x221001, x221002, x221003, x221004, x221005, x221006, x221007, x221008 => if x26 < x25 then (if 0 ≤ x26 then (if x26 < (x24.length : Int) then (if x26 < (x0.length : Int) then ((Bu.f k ((Bj x0 x26).f1) ((Au x24 x26).f0) ((Au x24 x26).f1) ((Au x24 x26).f2.f0) ((Au x24 x26).f2.f1) ((Au x24 x26).f2.f2) ((Au x24 x26).f3.f0) ((Au x24 x26).f3.f1) ((Au x24 x26).f3.f2)).bind fun t226 => (if t226 = true then (Bo.l0 k x0 x2 x24 x25 (wrap64 (x26 + 1)) x221000 x221001 x221002 x221003 x221004 x221005 x221006 x221007 x221008) else (some (false, false, false, 1)))) else (none)) else (none)) else (none)) else ((Av.f k x0 x2 x221000 x221001 x221002 x221003 x221004 x221005 x221006 x221007 x221008).bind fun bt227 => (some (bt227.1, bt227.2.1, bt227.2.2, 0)))
def Bo.f (k : Nat) (l0 : List (S64)) (a1_0 : Int) (a1_1 : ByteArray) (a1_2 : Int) (a1_3 : Bool) (a1_4 : Int) (a1_5 : ByteArray) (a1_6 : Int) (a1_7 : ByteArray) (l1_8 : List (S27)) (l2 : List (S33)) : Option (Bool × Bool × Bool × Int) := (Db.f l0 a1_0 a1_1 a1_2 a1_3 a1_4 a1_5 a1_6 a1_7 l1_8).bind fun t222 => (if t222 = 0 then (if (l2.length : Int) = (l0.length : Int) then (Bo.l0 k l0 l2 l2 (l2.length : Int) 0 a1_0 a1_1 a1_2 a1_3 a1_4 a1_5 a1_6 a1_7 l1_8) else (some (false, false, false, 1))) else (some (false, false, false, t222)))
theorem Bo.mono_l : ∀ k, (∀ y0 y1 y2 y3 y4 y5 y6 y7 y8 y9 y10 y11 y12 y13, LeO (Bo.l0 k y0 y1 y2 y3 y4 y5 y6 y7 y8 y9 y10 y11 y12 y13) (Bo.l0 (k + 1) y0 y1 y2 y3 y4 y5 y6 y7 y8 y9 y10 y11 y12 y13))
 | 0 => fun _ _ _ _ _ _ _ _ _ _ _ _ _ _ r h => by simp [Bo.l0] at h
 | k + 1 => by
  have ih0 := Bo.mono_l k
  ·intro y0 y1 y2 y3 y4 y5 y6 y7 y8 y9 y10 y11 y12 y13
   unfold Bo.l0
   repeat' first|(with_reducible first|exact ih0 _ _ _ _ _ _ _ _ _ _ _ _ _ _|exact Av.mono _ _ _ _ _ _ _ _ _ _ _ _|exact Bu.mono _ _ _ _ _ _ _ _ _ _|exact LeO.refl _|exact LeO.none _|refine LeO.ite ?_ ?_|refine LeO.bind ?_ fun _=>?_)|exact ih0 _ _ _ _ _ _ _ _ _ _ _ _ _ _|exact Av.mono _ _ _ _ _ _ _ _ _ _ _ _|exact Bu.mono _ _ _ _ _ _ _ _ _ _|exact LeO.none _|refine LeO.ite ?_ ?_|refine LeO.bind ?_ fun _=>?_
theorem Bo.mono : ∀ a0 a1 a2 a3 a4 a5 a6 a7 a8 a9 a10 k, LeO (Bo.f k a0 a1 a2 a3 a4 a5 a6 a7 a8 a9 a10) (Bo.f (k + 1) a0 a1 a2 a3 a4 a5 a6 a7 a8 a9 a10) := by
 intro a0 a1 a2 a3 a4 a5 a6 a7 a8 a9 a10 k
 have ih0 := Bo.mono_l k
 unfold Bo.f
 repeat' first|(with_reducible first|exact ih0 _ _ _ _ _ _ _ _ _ _ _ _ _ _|exact Av.mono _ _ _ _ _ _ _ _ _ _ _ _|exact Bu.mono _ _ _ _ _ _ _ _ _ _|exact LeO.refl _|exact LeO.none _|refine LeO.ite ?_ ?_|refine LeO.bind ?_ fun _=>?_)|exact ih0 _ _ _ _ _ _ _ _ _ _ _ _ _ _|exact Av.mono _ _ _ _ _ _ _ _ _ _ _ _|exact Bu.mono _ _ _ _ _ _ _ _ _ _|exact LeO.none _|refine LeO.ite ?_ ?_|refine LeO.bind ?_ fun _=>?_
def Bo.T9 : Bool × List (List Nat × List Nat) := (true, [([], []), ([], []), ([0, 1], [0, 1]), ([2], [2]), ([3], [3]), ([], []), ([4, 5], [4, 5]), ([6], [6])])
def Bo.B9 : List Nat := [0, 0, 3, 7, 15, 0, 63, 127]
theorem Bo.tab9 : rtab .any (opsOf Try.f12 9) = Bo.T9 := by kernel_rfl
theorem Bo.bits9 : waitsOk Bo.T9.2 Bo.B9 = true := by kernel_rfl
theorem Bo.calls (k : Nat) (A0 : Option Addr) (c0 : Nat) (l0 : List (S64)) (a1_0 : Int) (a1_1 : ByteArray) (a1_2 : Int) (a1_3 : Bool) (a1_4 : Int) (a1_5 : ByteArray) (a1_6 : Int) (a1_7 : ByteArray) (A1_8 : Option Addr) (c1_8 : Nat) (l1_8 : List (S27)) (A2 : Option Addr) (c2 : Nat) (l2 : List (S33)) (r1 : Bool) (r2 : Bool) (r3 : Bool) (r4 : Int) (w : World) (hr0 : Kd.C k64 w A0 l0.length l0) (hc0 : l0.length ≤ c0) (hr1_8 : Kd.C k27 w A1_8 l1_8.length l1_8) (hc1_8 : l1_8.length ≤ c1_8) (hr2 : Kd.C k33 w A2 l2.length l2) (hc2 : l2.length ≤ c2) (h : Bo.f k l0 a1_0 a1_1 a1_2 a1_3 a1_4 a1_5 a1_6 a1_7 l1_8 l2 = some (r1, r2, r3, r4)) :
  Calls Try.prog 12 #[.slice A0 l0.length c0, .agg #[.int .i64 a1_0, .string a1_1, .int .i64 a1_2, .bool a1_3, .int .i64 a1_4, .string a1_5, .int .i64 a1_6, .string a1_7, .slice A1_8 l1_8.length c1_8], .slice A2 l2.length c2] w fun e w' => e = .returned (.tuple #[.agg #[.bool r1, .bool r2, .bool r3], .int .i64 r4]) ∧ Below w.heap.size w w' := by
 have hu27 := Try.underlying27
 have hu35 := Try.underlying35
 have hu33 := Try.underlying33
 have hu68 := Try.underlying68
 have HR0 := Aa.mk hr0
 have HC0 := Aa.mk hc0
 clear hr0 hc0
 have HR1_8 := Aa.mk hr1_8
 have HC1_8 := Aa.mk hc1_8
 clear hr1_8 hc1_8
 have HR2 := Aa.mk hr2
 have HC2 := Aa.mk hc2
 clear hr2 hc2
 have HB := Aa.mk (Below.refl w.heap.size w)
 have H : ((Db.f l0 a1_0 a1_1 a1_2 a1_3 a1_4 a1_5 a1_6 a1_7 l1_8).bind fun t222 => (if t222 = 0 then (if (l2.length : Int) = (l0.length : Int) then (Bo.l0 k l0 l2 l2 (l2.length : Int) 0 a1_0 a1_1 a1_2 a1_3 a1_4 a1_5 a1_6 a1_7 l1_8) else (some (false, false, false, 1))) else (some (false, false, false, t222)))) = some (r1, r2, r3, r4) := h
 clear h
 replace H := Dn H
 obtain ⟨t222, A40, H⟩ := H
 replace H : (if t222 = 0 then (if (l2.length : Int) = (l0.length : Int) then (Bo.l0 k l0 l2 l2 (l2.length : Int) 0 a1_0 a1_1 a1_2 a1_3 a1_4 a1_5 a1_6 a1_7 l1_8) else (some (false, false, false, 1))) else (some (false, false, false, t222))) = some (r1, r2, r3, r4) := H
 have A4 := Aa.mk A40
 clear A40
 by_cases c5 : t222 = 0
 ·(
 rw [if_pos c5] at H
 have c5b0 : (t222 == 0) = true := Dl c5
 have c5b1 : (t222 != 0) = false := Dk c5
 clear c5
 by_cases c6 : (l2.length : Int) = (l0.length : Int)
 ·(
 rw [if_pos c6] at H
 have c6b0 : ((l2.length : Int) == (l0.length : Int)) = true := Dl c6
 have c6b1 : ((l2.length : Int) != (l0.length : Int)) = false := Dk c6
 have c6b2 : (l2.length == l0.length) = true := by first | simpa using c6 | (simp at c6 ⊢; omega)
 clear c6
 have H' := Aa.mk H
 clear H
 go_enter Try.func12, Try.ntmps12
 go_wp2_with (first | (refine bx_ (N := 4) (cs := #[.int .i64 a1_0, .string a1_1, .int .i64 a1_2, .bool a1_3, .int .i64 a1_4, .string a1_5, .int .i64 a1_6, .string a1_7, .slice A1_8 l1_8.length c1_8]) (t := 27) ?_; intro gb220 hg w7 hbox hb; have BK220 := Aa.mk (hbox); have GW220 := ge_ HB hg; have GE220 := ge_ HB hg; replace HB := bs_ HB hb; clear hb hbox hg) | (refine bx_ (N := 6) (cs := #[.bool false, .bool false, .bool false]) (t := 35) ?_; intro gb221 hg w8 hbox hb; have BK221 := Aa.mk (hbox); have GW221 := ge_ HB hg; have GE221 := ge_ HB hg; have NB220_221 := lt_ BK220 hg; have NB221_220 := gt_ BK220 hg; replace BK220 := bk_ BK220 hb; replace HB := bs_ HB hb; clear hb hbox hg; have hnb9 := NB220_221.out; have hnc9 := NB221_220.out; obtain ⟨C10_0, C10_1, C10_2, C10_3, C10_4, C10_5, C10_6, C10_7, C10_8⟩ := zc9_ BK220.out; obtain ⟨F10_0, F10_1, F10_2, F10_3, F10_4, F10_5, F10_6, F10_7, F10_8⟩ := zf9_ BK220.out) | ((with_reducible refine Aw (f := 27) rfl ?_); refine gl_ (some 13) rfl Try.func27 #[.slice A0 l0.length c0, .agg #[.int .i64 a1_0, .string a1_1, .int .i64 a1_2, .bool a1_3, .int .i64 a1_4, .string a1_5, .int .i64 a1_6, .string a1_7, .slice A1_8 l1_8.length c1_8]] ?_; (with_reducible refine (Db.calls _ _ l0 a1_0 a1_1 a1_2 a1_3 a1_4 a1_5 a1_6 a1_7 _ _ l1_8 t222 _ ?side1 ?side2 ?side3 ?side4 A4.out).mono ?_); (case side1 => repeat (first | exact (Kd.C_below HR0.out HB.out) | (with_reducible refine Kd.C_alloc ?_ _) | (with_reducible refine Kd.C_drewN ?_ _) | (with_reducible refine Kd.C_drew ?_))); (case side2 => exact HC0.out); (case side3 => repeat (first | exact (Kd.C_below HR1_8.out HB.out) | (with_reducible refine Kd.C_alloc ?_ _) | (with_reducible refine Kd.C_drewN ?_ _) | (with_reducible refine Kd.C_drew ?_))); (case side4 => exact HC1_8.out); rintro e w11 ⟨rfl, hb⟩; refine ⟨_, rfl, ?_⟩;  replace BK220 := bk_ BK220 hb; replace BK221 := bk_ BK221 hb; replace HB := bs_ HB hb; (try clear hb); (try clear hb2); (try clear hk); (try clear hi)))
 go_loopg [26] k (fun kq v26 w' => ∃ (x26_1 : Int) (x222000_1 : Bool) (x222001_1 : Bool) (x222002_1 : Bool), v26 = .int .i64 x26_1 ∧ Aa (Bo.l0 kq l0 l2 l2 (l2.length : Int) x26_1 a1_0 a1_1 a1_2 a1_3 a1_4 a1_5 a1_6 a1_7 l1_8 = some (r1, r2, r3, r4)) ∧ Aa (kq ≤ k) ∧ Aa (w'.heap[gb220]? = some (.cells #[.int .i64 a1_0, .string a1_1, .int .i64 a1_2, .bool a1_3, .int .i64 a1_4, .string a1_5, .int .i64 a1_6, .string a1_7, (.slice A1_8 l1_8.length c1_8)] 27 (0, 0))) ∧ Aa (w'.heap[gb221]? = some (.cells #[.bool x222000_1, .bool x222001_1, .bool x222002_1] 35 (0, 0))) ∧ Aa (Below w.heap.size w w'))
 case atStart => exact ⟨_, _, _, _, (by first | rfl | (simp; done) | (simp [*]; done)), H', ⟨Nat.le_refl _⟩, ⟨by (with_reducible repeat (first | refine Ag ?_ _ | refine Af ?_ | refine Ae ?_ _)); exact BK220.out⟩, ⟨by (with_reducible repeat (first | refine Ag ?_ _ | refine Af ?_ | refine Ae ?_ _)); exact BK221.out⟩, ⟨by repeat (first | (with_reducible first | exact HB.out | apply Ak | apply Ah | apply Aj | refine Ao ?_ GE220.out | refine Ao ?_ GE221.out) | exact HB.out)⟩⟩
 case round =>(
 clear H'
 try clear c2
 try clear c5
 try clear c5b0
 try clear c5b1
 try clear c6
 try clear c6b0
 try clear c6b1
 try clear c6b2
 try clear C10_0 C10_1 C10_2 C10_3 C10_4 C10_5 C10_6 C10_7 C10_8
 try clear F10_0 F10_1 F10_2 F10_3 F10_4 F10_5 F10_6 F10_7 F10_8
 obtain ⟨x26_1, x222000_1, x222001_1, x222002_1, rfl, HA, HK1, BK220, BK221, HB⟩ := hrel
 cases gk with
 | zero => exact absurd HA.out (by simp [Bo.l0])
 | succ k1 =>(
 have H := HA.out
 clear HA
 simp only [Bo.l0] at H
 by_cases c12 : x26_1 < (l2.length : Int)
 ·(
 rw [if_pos c12] at H
 have c12b0 : decide (x26_1 < (l2.length : Int)) = true := decide_eq_true c12
 clear c12
 by_cases c13 : 0 ≤ x26_1
 ·(
 rw [if_pos c13] at H
 have c13b0 : decide (0 ≤ x26_1) = true := decide_eq_true c13
 clear c13
 by_cases c14 : x26_1 < (l2.length : Int)
 ·(
 rw [if_pos c14] at H
 have c14b0 : decide (x26_1 < (l2.length : Int)) = true := decide_eq_true c14
 clear c14
 by_cases c15 : x26_1 < (l0.length : Int)
 ·(
 rw [if_pos c15] at H
 have c15b0 : decide (x26_1 < (l0.length : Int)) = true := decide_eq_true c15
 clear c15
 replace H := Dn H
 obtain ⟨t226, A160, H⟩ := H
 replace H : (if t226 = true then (Bo.l0 k1 l0 l2 l2 (l2.length : Int) (wrap64 (x26_1 + 1)) a1_0 a1_1 a1_2 a1_3 a1_4 a1_5 a1_6 a1_7 l1_8) else (some (false, false, false, 1))) = some (r1, r2, r3, r4) := H
 have A16 := Aa.mk A160
 clear A160
 by_cases c17 : t226 = true
 ·(
 subst c17
 have H1 : (Bo.l0 k1 l0 l2 l2 (l2.length : Int) (wrap64 (x26_1 + 1)) a1_0 a1_1 a1_2 a1_3 a1_4 a1_5 a1_6 a1_7 l1_8) = some (r1, r2, r3, r4) := by rw [if_pos rfl] at H; exact H
 clear H
 have H := H1
 clear H1
 have H' := Aa.mk H
 clear H
 have p223 : 0 ≤ (x26_1 : Int) := dt_
 have q223 : x26_1 < (l2.length : Int) := dt_
 obtain ⟨ad223, e223, hx223_0, hx223_1, hx223_2, hx223_3, hx223_4, hx223_5, hx223_6, hx223_7⟩ := at_T33 HR2.out x26_1 p223 q223
 cases e223
 replace hx223_0 := hc_ HB hx223_0
 replace hx223_1 := hc_ HB hx223_1
 replace hx223_2 := hc_ HB hx223_2
 replace hx223_3 := hc_ HB hx223_3
 replace hx223_4 := hc_ HB hx223_4
 replace hx223_5 := hc_ HB hx223_5
 replace hx223_6 := hc_ HB hx223_6
 replace hx223_7 := hc_ HB hx223_7
 replace p223 := eq_true p223
 replace q223 := eq_true q223
 try go_wp2_with (first | (refine bx_ (N := 10) (cs := #[.int .i64 0, .int .i64 0, .bool false, .int .i64 0, .string (⟨#[]⟩ : ByteArray), .bool false, .int .i64 0, .string (⟨#[]⟩ : ByteArray)]) (t := 33) ?_; intro gb224 hg w18 hbox hb; have BK224 := Aa.mk (hbox); have GW224 := ge_ HB hg; have GE224 := ge_ HB hg; have NB220_224 := lt_ BK220 hg; have NB224_220 := gt_ BK220 hg; have NB221_224 := lt_ BK221 hg; have NB224_221 := gt_ BK221 hg; replace BK220 := bk_ BK220 hb; replace BK221 := bk_ BK221 hb; replace HB := bs_ HB hb; clear hb hbox hg; have hnb19 := NB224_220.out; have hnc19 := NB220_224.out; have hnb20 := NB224_221.out; have hnc20 := NB221_224.out; obtain ⟨C21_0, C21_1, C21_2, C21_3, C21_4, C21_5, C21_6, C21_7⟩ := zc8_ BK224.out; obtain ⟨F21_0, F21_1, F21_2, F21_3, F21_4, F21_5, F21_6, F21_7⟩ := zf8_ BK224.out))
 obtain ⟨w22, hcw22⟩ : ∃ w_, w_ = ((((((((w18.setCell ⟨gb224, 0, none⟩ (.int .i64 ((Au l2 x26_1).f0))).setCell ⟨gb224, 1, none⟩ (.int .i64 ((Au l2 x26_1).f1))).setCell ⟨gb224, 2, none⟩ (.bool ((Au l2 x26_1).f2.f0))).setCell ⟨gb224, 3, none⟩ (.int .i64 ((Au l2 x26_1).f2.f1))).setCell ⟨gb224, 4, none⟩ (.string ((Au l2 x26_1).f2.f2))).setCell ⟨gb224, 5, none⟩ (.bool ((Au l2 x26_1).f3.f0))).setCell ⟨gb224, 6, none⟩ (.int .i64 ((Au l2 x26_1).f3.f1))).setCell ⟨gb224, 7, none⟩ (.string ((Au l2 x26_1).f3.f2))) := ⟨_, rfl⟩
 rw [← hcw22]
 have n0_ : Aa (w22.heap[gb220]? = some (.cells #[.int .i64 a1_0, .string a1_1, .int .i64 a1_2, .bool a1_3, .int .i64 a1_4, .string a1_5, .int .i64 a1_6, .string a1_7, .slice A1_8 l1_8.length c1_8] 27 (0, 0))) := ⟨by rw [hcw22]; (iterate 8 ((with_reducible repeat (first | refine Ag ?_ _ | refine Af ?_ | refine Ae ?_ _)); refine Bv ?_ NB220_224.out _)); (with_reducible repeat (first | refine Ag ?_ _ | refine Af ?_ | refine Ae ?_ _)); exact BK220.out⟩
 have n1_ : Aa (w22.heap[gb221]? = some (.cells #[.bool x222000_1, .bool x222001_1, .bool x222002_1] 35 (0, 0))) := ⟨by rw [hcw22]; (iterate 8 ((with_reducible repeat (first | refine Ag ?_ _ | refine Af ?_ | refine Ae ?_ _)); refine Bv ?_ NB221_224.out _)); (with_reducible repeat (first | refine Ag ?_ _ | refine Af ?_ | refine Ae ?_ _)); exact BK221.out⟩
 have n2_ : Aa (w22.heap[gb224]? = some (.cells #[.int .i64 ((Au l2 x26_1).f0), .int .i64 ((Au l2 x26_1).f1), .bool ((Au l2 x26_1).f2.f0), .int .i64 ((Au l2 x26_1).f2.f1), .string ((Au l2 x26_1).f2.f2), .bool ((Au l2 x26_1).f3.f0), .int .i64 ((Au l2 x26_1).f3.f1), .string ((Au l2 x26_1).f3.f2)] 33 (0, 0))) := ⟨by rw [hcw22]; (with_reducible repeat (first | refine Ag ?_ _ | refine Af ?_ | refine Ae ?_ _)); apply blk_all8_; (with_reducible repeat (first | refine Ag ?_ _ | refine Af ?_ | refine Ae ?_ _)); exact BK224.out⟩
 have n3_ : Aa (Below w.heap.size w w22) := ⟨by rw [hcw22]; repeat (first | (with_reducible first | exact HB.out | apply Ak | apply Ah | apply Aj | refine Ao ?_ GE220.out | refine Ao ?_ GE221.out | refine Ao ?_ GE224.out) | exact HB.out)⟩
 (try clear BK220)
 (try clear BK221)
 (try clear BK224)
 (try clear HB)
 clear hcw22
 have BK220 := n0_
 have BK221 := n1_
 have BK224 := n2_
 have HB := n3_
 clear n0_ n1_ n2_ n3_
 replace BK220 := Aa.mk (Af BK220.out); replace BK221 := Aa.mk (Af BK221.out); replace BK224 := Aa.mk (Af BK224.out); replace HB := Aa.mk (Aj HB.out)
 have p225 : 0 ≤ (x26_1 : Int) := dt_
 have q225 : x26_1 < (l0.length : Int) := dt_
 obtain ⟨ad225, e225, hx225_0, hx225_1, hx225_2⟩ := at_T64 HR0.out x26_1 p225 q225
 have hw225_2 := hx225_2
 have hw225_1 := hx225_1
 have hw225_0 := hx225_0
 cases e225
 replace hx225_0 := hc_ HB hx225_0
 replace hx225_1 := hc_ HB hx225_1
 replace hx225_2 := hc_ HB hx225_2
 replace p225 := eq_true p225
 replace q225 := eq_true q225
 refine start_ (n := 8) (S := fun w' => w'.cell? ⟨gb224, 0, none⟩ = some (.int .i64 ((Au l2 x26_1).f0)) ∧ w'.cell? ⟨gb224, 1, none⟩ = some (.int .i64 ((Au l2 x26_1).f1)) ∧ w'.cell? ⟨gb224, 2, none⟩ = some (.bool ((Au l2 x26_1).f2.f0)) ∧ w'.cell? ⟨gb224, 3, none⟩ = some (.int .i64 ((Au l2 x26_1).f2.f1)) ∧ w'.cell? ⟨gb224, 4, none⟩ = some (.string ((Au l2 x26_1).f2.f2)) ∧ w'.cell? ⟨gb224, 5, none⟩ = some (.bool ((Au l2 x26_1).f3.f0)) ∧ w'.cell? ⟨gb224, 6, none⟩ = some (.int .i64 ((Au l2 x26_1).f3.f1)) ∧ w'.cell? ⟨gb224, 7, none⟩ = some (.string ((Au l2 x26_1).f3.f2)) ∧ w'.cell? (ad225.add ((x26_1).toNat * 3)) = some (.string ((Bj l0 x26_1).f0)) ∧ w'.cell? ⟨(ad225.add ((x26_1).toNat * 3)).block, (ad225.add ((x26_1).toNat * 3)).off + 1, none⟩ = some (.int .i64 ((Bj l0 x26_1).f1)) ∧ w'.cell? ⟨(ad225.add ((x26_1).toNat * 3)).block, (ad225.add ((x26_1).toNat * 3)).off + 2, none⟩ = some (.bool ((Bj l0 x26_1).f2))) (ds := []) #[false, false, false, false, false, false, false, false] (by kernel_rfl) rfl rfl ⟨(Ab BK224.out 0).trans rfl, (Ab BK224.out 1).trans rfl, (Ab BK224.out 2).trans rfl, (Ab BK224.out 3).trans rfl, (Ab BK224.out 4).trans rfl, (Ab BK224.out 5).trans rfl, (Ab BK224.out 6).trans rfl, (Ab BK224.out 7).trans rfl, ((HB.out.cell (World.block_lt_of_cell? w _ hw225_0)).trans hw225_0), ((HB.out.cell (World.block_lt_of_cell? w _ hw225_1)).trans hw225_1), ((HB.out.cell (World.block_lt_of_cell? w _ hw225_2)).trans hw225_2)⟩ (fun hHeld => ?_); refine with_tabW Bo.tab9 Bo.bits9 (fun HT_ HW_ => ?_)
 generalize w22.drew = w23 at BK220 BK221 BK224 HB hx225_0 hx225_1 hx225_2 hHeld ⊢
 refine pu_ 0 (some 31) (bl_ 8 1) ?_
 refine pu_ 1 (some 32) (bl_ 8 3) ?_
 refine pu_ 2 (some 33) (bl_ 8 7) ?_
 refine pu_ 3 (some 34) (bl_ 8 15) ?_
 refine ta_ 4 (some 35) (bl_ 8 31) hHeld ?_
 refine ta_ 5 (some 36) (bl_ 8 63) hHeld ?_
 refine one_ (i := 6) (N := some 37) #[true, true, true, true, true, true, true, false] rfl rfl (one_of HT_.out (by kernel_rfl)) (by decide) (fun K hK => ?_)
 refine gs_ Try.func28 #[.int .i64 ((Bj l0 x26_1).f1), .agg #[.int .i64 ((Au l2 x26_1).f0), .int .i64 ((Au l2 x26_1).f1), .bool ((Au l2 x26_1).f2.f0), .int .i64 ((Au l2 x26_1).f2.f1), .string ((Au l2 x26_1).f2.f2), .bool ((Au l2 x26_1).f3.f0), .int .i64 ((Au l2 x26_1).f3.f1), .string ((Au l2 x26_1).f3.f2)]] ?_
 with_reducible refine (Bu.calls k1 ((Bj l0 x26_1).f1) ((Au l2 x26_1).f0) ((Au l2 x26_1).f1) ((Au l2 x26_1).f2.f0) ((Au l2 x26_1).f2.f1) ((Au l2 x26_1).f2.f2) ((Au l2 x26_1).f3.f0) ((Au l2 x26_1).f3.f1) ((Au l2 x26_1).f3.f2) true _ A16.out).mono ?_
 rintro e w24 ⟨rfl, hb⟩
 refine ⟨_, rfl, ?_⟩
 replace BK220 := bk_ BK220 hb; replace BK221 := bk_ BK221 hb; replace BK224 := bk_ BK224 hb; replace HB := bs_ HB hb
 (try clear hb)
 (try clear hb2)
 (try clear hk)
 (try clear hi)
 refine hK.out _ _ ⟨(Ab BK224.out 0).trans rfl, (Ab BK224.out 1).trans rfl, (Ab BK224.out 2).trans rfl, (Ab BK224.out 3).trans rfl, (Ab BK224.out 4).trans rfl, (Ab BK224.out 5).trans rfl, (Ab BK224.out 6).trans rfl, (Ab BK224.out 7).trans rfl, ((HB.out.cell (World.block_lt_of_cell? w _ hw225_0)).trans hw225_0), ((HB.out.cell (World.block_lt_of_cell? w _ hw225_1)).trans hw225_1), ((HB.out.cell (World.block_lt_of_cell? w _ hw225_2)).trans hw225_2)⟩ (fun hHeld => ?_)
 clear hK K
 refine norm_ (a' := ?_) ?_ ?_
 rotate_left
 ·(
 show Act.put _ (some 37) _ = _
 simp only [Act.put, List.setIfInBounds_toArray, List.set_cons_zero, List.set_cons_succ, i64_w, i32_w]
 rfl)
 refine pu_ 7 (some 38) (bl_ 8 255) ?_
 refine done_ (done_of HT_.out (by kernel_rfl)) ?_
 try go_wp2
 go_roundg k1
 case measure => have := HK1.out; omega
 case rel => exact ⟨_, _, _, _, (by first | rfl | (simp; done) | (simp [*]; done)), H', ⟨by have := HK1.out; omega⟩, ⟨by (with_reducible repeat (first | refine Ag ?_ _ | refine Af ?_ | refine Ae ?_ _)); exact BK220.out⟩, ⟨by (with_reducible repeat (first | refine Ag ?_ _ | refine Af ?_ | refine Ae ?_ _)); exact BK221.out⟩, ⟨by repeat (first | (with_reducible first | exact HB.out | apply Ak | apply Ah | apply Aj | refine Ao ?_ GE220.out | refine Ao ?_ GE221.out | refine Ao ?_ GE224.out) | exact HB.out)⟩⟩)
 ·(
 replace c17 := Dq c17
 subst c17
 have H1 : (some (false, false, false, 1)) = some (r1, r2, r3, r4) := by rw [if_neg (show ¬ (false = true) by decide)] at H; exact H
 clear H
 have H := H1
 clear H1
 simp only [Option.some.injEq, Prod.mk.injEq] at H
 obtain ⟨rfl, rfl, rfl, rfl⟩ := H
 have p223 : 0 ≤ (x26_1 : Int) := dt_
 have q223 : x26_1 < (l2.length : Int) := dt_
 obtain ⟨ad223, e223, hx223_0, hx223_1, hx223_2, hx223_3, hx223_4, hx223_5, hx223_6, hx223_7⟩ := at_T33 HR2.out x26_1 p223 q223
 cases e223
 replace hx223_0 := hc_ HB hx223_0
 replace hx223_1 := hc_ HB hx223_1
 replace hx223_2 := hc_ HB hx223_2
 replace hx223_3 := hc_ HB hx223_3
 replace hx223_4 := hc_ HB hx223_4
 replace hx223_5 := hc_ HB hx223_5
 replace hx223_6 := hc_ HB hx223_6
 replace hx223_7 := hc_ HB hx223_7
 replace p223 := eq_true p223
 replace q223 := eq_true q223
 try go_wp2_with (first | (refine bx_ (N := 10) (cs := #[.int .i64 0, .int .i64 0, .bool false, .int .i64 0, .string (⟨#[]⟩ : ByteArray), .bool false, .int .i64 0, .string (⟨#[]⟩ : ByteArray)]) (t := 33) ?_; intro gb224 hg w25 hbox hb; have BK224 := Aa.mk (hbox); have GW224 := ge_ HB hg; have GE224 := ge_ HB hg; have NB220_224 := lt_ BK220 hg; have NB224_220 := gt_ BK220 hg; have NB221_224 := lt_ BK221 hg; have NB224_221 := gt_ BK221 hg; replace BK220 := bk_ BK220 hb; replace BK221 := bk_ BK221 hb; replace HB := bs_ HB hb; clear hb hbox hg; have hnb26 := NB224_220.out; have hnc26 := NB220_224.out; have hnb27 := NB224_221.out; have hnc27 := NB221_224.out; obtain ⟨C28_0, C28_1, C28_2, C28_3, C28_4, C28_5, C28_6, C28_7⟩ := zc8_ BK224.out; obtain ⟨F28_0, F28_1, F28_2, F28_3, F28_4, F28_5, F28_6, F28_7⟩ := zf8_ BK224.out))
 obtain ⟨w29, hcw29⟩ : ∃ w_, w_ = ((((((((w25.setCell ⟨gb224, 0, none⟩ (.int .i64 ((Au l2 x26_1).f0))).setCell ⟨gb224, 1, none⟩ (.int .i64 ((Au l2 x26_1).f1))).setCell ⟨gb224, 2, none⟩ (.bool ((Au l2 x26_1).f2.f0))).setCell ⟨gb224, 3, none⟩ (.int .i64 ((Au l2 x26_1).f2.f1))).setCell ⟨gb224, 4, none⟩ (.string ((Au l2 x26_1).f2.f2))).setCell ⟨gb224, 5, none⟩ (.bool ((Au l2 x26_1).f3.f0))).setCell ⟨gb224, 6, none⟩ (.int .i64 ((Au l2 x26_1).f3.f1))).setCell ⟨gb224, 7, none⟩ (.string ((Au l2 x26_1).f3.f2))) := ⟨_, rfl⟩
 rw [← hcw29]
 have n0_ : Aa (w29.heap[gb220]? = some (.cells #[.int .i64 a1_0, .string a1_1, .int .i64 a1_2, .bool a1_3, .int .i64 a1_4, .string a1_5, .int .i64 a1_6, .string a1_7, .slice A1_8 l1_8.length c1_8] 27 (0, 0))) := ⟨by rw [hcw29]; (iterate 8 ((with_reducible repeat (first | refine Ag ?_ _ | refine Af ?_ | refine Ae ?_ _)); refine Bv ?_ NB220_224.out _)); (with_reducible repeat (first | refine Ag ?_ _ | refine Af ?_ | refine Ae ?_ _)); exact BK220.out⟩
 have n1_ : Aa (w29.heap[gb221]? = some (.cells #[.bool x222000_1, .bool x222001_1, .bool x222002_1] 35 (0, 0))) := ⟨by rw [hcw29]; (iterate 8 ((with_reducible repeat (first | refine Ag ?_ _ | refine Af ?_ | refine Ae ?_ _)); refine Bv ?_ NB221_224.out _)); (with_reducible repeat (first | refine Ag ?_ _ | refine Af ?_ | refine Ae ?_ _)); exact BK221.out⟩
 have n2_ : Aa (w29.heap[gb224]? = some (.cells #[.int .i64 ((Au l2 x26_1).f0), .int .i64 ((Au l2 x26_1).f1), .bool ((Au l2 x26_1).f2.f0), .int .i64 ((Au l2 x26_1).f2.f1), .string ((Au l2 x26_1).f2.f2), .bool ((Au l2 x26_1).f3.f0), .int .i64 ((Au l2 x26_1).f3.f1), .string ((Au l2 x26_1).f3.f2)] 33 (0, 0))) := ⟨by rw [hcw29]; (with_reducible repeat (first | refine Ag ?_ _ | refine Af ?_ | refine Ae ?_ _)); apply blk_all8_; (with_reducible repeat (first | refine Ag ?_ _ | refine Af ?_ | refine Ae ?_ _)); exact BK224.out⟩
 have n3_ : Aa (Below w.heap.size w w29) := ⟨by rw [hcw29]; repeat (first | (with_reducible first | exact HB.out | apply Ak | apply Ah | apply Aj | refine Ao ?_ GE220.out | refine Ao ?_ GE221.out | refine Ao ?_ GE224.out) | exact HB.out)⟩
 (try clear BK220)
 (try clear BK221)
 (try clear BK224)
 (try clear HB)
 clear hcw29
 have BK220 := n0_
 have BK221 := n1_
 have BK224 := n2_
 have HB := n3_
 clear n0_ n1_ n2_ n3_
 replace BK220 := Aa.mk (Af BK220.out); replace BK221 := Aa.mk (Af BK221.out); replace BK224 := Aa.mk (Af BK224.out); replace HB := Aa.mk (Aj HB.out)
 have p225 : 0 ≤ (x26_1 : Int) := dt_
 have q225 : x26_1 < (l0.length : Int) := dt_
 obtain ⟨ad225, e225, hx225_0, hx225_1, hx225_2⟩ := at_T64 HR0.out x26_1 p225 q225
 have hw225_2 := hx225_2
 have hw225_1 := hx225_1
 have hw225_0 := hx225_0
 cases e225
 replace hx225_0 := hc_ HB hx225_0
 replace hx225_1 := hc_ HB hx225_1
 replace hx225_2 := hc_ HB hx225_2
 replace p225 := eq_true p225
 replace q225 := eq_true q225
 refine start_ (n := 8) (S := fun w' => w'.cell? ⟨gb224, 0, none⟩ = some (.int .i64 ((Au l2 x26_1).f0)) ∧ w'.cell? ⟨gb224, 1, none⟩ = some (.int .i64 ((Au l2 x26_1).f1)) ∧ w'.cell? ⟨gb224, 2, none⟩ = some (.bool ((Au l2 x26_1).f2.f0)) ∧ w'.cell? ⟨gb224, 3, none⟩ = some (.int .i64 ((Au l2 x26_1).f2.f1)) ∧ w'.cell? ⟨gb224, 4, none⟩ = some (.string ((Au l2 x26_1).f2.f2)) ∧ w'.cell? ⟨gb224, 5, none⟩ = some (.bool ((Au l2 x26_1).f3.f0)) ∧ w'.cell? ⟨gb224, 6, none⟩ = some (.int .i64 ((Au l2 x26_1).f3.f1)) ∧ w'.cell? ⟨gb224, 7, none⟩ = some (.string ((Au l2 x26_1).f3.f2)) ∧ w'.cell? (ad225.add ((x26_1).toNat * 3)) = some (.string ((Bj l0 x26_1).f0)) ∧ w'.cell? ⟨(ad225.add ((x26_1).toNat * 3)).block, (ad225.add ((x26_1).toNat * 3)).off + 1, none⟩ = some (.int .i64 ((Bj l0 x26_1).f1)) ∧ w'.cell? ⟨(ad225.add ((x26_1).toNat * 3)).block, (ad225.add ((x26_1).toNat * 3)).off + 2, none⟩ = some (.bool ((Bj l0 x26_1).f2))) (ds := []) #[false, false, false, false, false, false, false, false] (by kernel_rfl) rfl rfl ⟨(Ab BK224.out 0).trans rfl, (Ab BK224.out 1).trans rfl, (Ab BK224.out 2).trans rfl, (Ab BK224.out 3).trans rfl, (Ab BK224.out 4).trans rfl, (Ab BK224.out 5).trans rfl, (Ab BK224.out 6).trans rfl, (Ab BK224.out 7).trans rfl, ((HB.out.cell (World.block_lt_of_cell? w _ hw225_0)).trans hw225_0), ((HB.out.cell (World.block_lt_of_cell? w _ hw225_1)).trans hw225_1), ((HB.out.cell (World.block_lt_of_cell? w _ hw225_2)).trans hw225_2)⟩ (fun hHeld => ?_); refine with_tabW Bo.tab9 Bo.bits9 (fun HT_ HW_ => ?_)
 generalize w29.drew = w30 at BK220 BK221 BK224 HB hx225_0 hx225_1 hx225_2 hHeld ⊢
 refine pu_ 0 (some 31) (bl_ 8 1) ?_
 refine pu_ 1 (some 32) (bl_ 8 3) ?_
 refine pu_ 2 (some 33) (bl_ 8 7) ?_
 refine pu_ 3 (some 34) (bl_ 8 15) ?_
 refine ta_ 4 (some 35) (bl_ 8 31) hHeld ?_
 refine ta_ 5 (some 36) (bl_ 8 63) hHeld ?_
 refine one_ (i := 6) (N := some 37) #[true, true, true, true, true, true, true, false] rfl rfl (one_of HT_.out (by kernel_rfl)) (by decide) (fun K hK => ?_)
 refine gs_ Try.func28 #[.int .i64 ((Bj l0 x26_1).f1), .agg #[.int .i64 ((Au l2 x26_1).f0), .int .i64 ((Au l2 x26_1).f1), .bool ((Au l2 x26_1).f2.f0), .int .i64 ((Au l2 x26_1).f2.f1), .string ((Au l2 x26_1).f2.f2), .bool ((Au l2 x26_1).f3.f0), .int .i64 ((Au l2 x26_1).f3.f1), .string ((Au l2 x26_1).f3.f2)]] ?_
 with_reducible refine (Bu.calls k1 ((Bj l0 x26_1).f1) ((Au l2 x26_1).f0) ((Au l2 x26_1).f1) ((Au l2 x26_1).f2.f0) ((Au l2 x26_1).f2.f1) ((Au l2 x26_1).f2.f2) ((Au l2 x26_1).f3.f0) ((Au l2 x26_1).f3.f1) ((Au l2 x26_1).f3.f2) false _ A16.out).mono ?_
 rintro e w31 ⟨rfl, hb⟩
 refine ⟨_, rfl, ?_⟩
 replace BK220 := bk_ BK220 hb; replace BK221 := bk_ BK221 hb; replace BK224 := bk_ BK224 hb; replace HB := bs_ HB hb
 (try clear hb)
 refine hK.out _ _ ⟨(Ab BK224.out 0).trans rfl, (Ab BK224.out 1).trans rfl, (Ab BK224.out 2).trans rfl, (Ab BK224.out 3).trans rfl, (Ab BK224.out 4).trans rfl, (Ab BK224.out 5).trans rfl, (Ab BK224.out 6).trans rfl, (Ab BK224.out 7).trans rfl, ((HB.out.cell (World.block_lt_of_cell? w _ hw225_0)).trans hw225_0), ((HB.out.cell (World.block_lt_of_cell? w _ hw225_1)).trans hw225_1), ((HB.out.cell (World.block_lt_of_cell? w _ hw225_2)).trans hw225_2)⟩ (fun hHeld => ?_)
 clear hK K
 refine norm_ (a' := ?_) ?_ ?_
 rotate_left
 ·(
 show Act.put _ (some 37) _ = _
 simp only [Act.put, List.setIfInBounds_toArray, List.set_cons_zero, List.set_cons_succ, i64_w, i32_w]
 rfl)
 refine pu_ 7 (some 38) (bl_ 8 255) ?_
 refine done_ (done_of HT_.out (by kernel_rfl)) ?_
 have hnb32 := NB221_220.out
 have hnc32 := NB220_221.out
 obtain ⟨C33_0, C33_1, C33_2⟩ := cz3_ BK221.out
 obtain ⟨F33_0, F33_1, F33_2⟩ := fz3_ BK221.out
 try go_wp2
 refine bodyPost_ret (results_ct rfl _ _ gb221 35 #[.bool false, .bool false, .bool false] (0, 0) _ rfl (by (with_reducible repeat (first | refine Ag ?_ _ | refine Af ?_ | refine Ae ?_ _)); apply Cf; (with_reducible repeat (first | refine Ag ?_ _ | refine Af ?_ | refine Ae ?_ _)); exact BK221.out) Try.underlying35 rfl (by kernel_rfl)) rfl ?_
 exact en_ HB))
 ·(
 rw [if_neg c15] at H
 exact absurd H (by simp)))
 ·(
 rw [if_neg c14] at H
 exact absurd H (by simp)))
 ·(
 rw [if_neg c13] at H
 exact absurd H (by simp)))
 ·(
 rw [if_neg c12] at H
 have c12b0 : decide (x26_1 < (l2.length : Int)) = false := decide_eq_false c12
 clear c12
 replace H := Dn H
 obtain ⟨⟨t227, t228, t229⟩, A340, H⟩ := H
 replace H : (some (t227, t228, t229, 0)) = some (r1, r2, r3, r4) := H
 have A34 := Aa.mk A340
 clear A340
 simp only [Option.some.injEq, Prod.mk.injEq] at H
 obtain ⟨rfl, rfl, rfl, rfl⟩ := H
 have hnb35 := NB220_221.out
 have hnc35 := NB221_220.out
 obtain ⟨C36_0, C36_1, C36_2, C36_3, C36_4, C36_5, C36_6, C36_7, C36_8⟩ := cz9_ BK220.out
 obtain ⟨F36_0, F36_1, F36_2, F36_3, F36_4, F36_5, F36_6, F36_7, F36_8⟩ := fz9_ BK220.out
 go_wp2_with (first | ((with_reducible refine Aw (f := 29) rfl ?_); refine gl_ (some 45) rfl Try.func29 #[.agg #[.slice A0 l0.length c0, .slice A2 l2.length c2], .agg #[.int .i64 a1_0, .string a1_1, .int .i64 a1_2, .bool a1_3, .int .i64 a1_4, .string a1_5, .int .i64 a1_6, .string a1_7, .slice A1_8 l1_8.length c1_8]] ?_; (with_reducible refine (Av.calls k1 _ _ l0 _ _ l2 a1_0 a1_1 a1_2 a1_3 a1_4 a1_5 a1_6 a1_7 _ _ l1_8 t227 t228 t229 _ ?side1 ?side2 ?side3 ?side4 ?side5 ?side6 A34.out).mono ?_); (case side1 => repeat (first | exact (Kd.C_below HR0.out HB.out) | (with_reducible refine Kd.C_alloc ?_ _) | (with_reducible refine Kd.C_drewN ?_ _) | (with_reducible refine Kd.C_drew ?_))); (case side2 => exact HC0.out); (case side3 => repeat (first | exact (Kd.C_below HR2.out HB.out) | (with_reducible refine Kd.C_alloc ?_ _) | (with_reducible refine Kd.C_drewN ?_ _) | (with_reducible refine Kd.C_drew ?_))); (case side4 => exact HC2.out); (case side5 => repeat (first | exact (Kd.C_below HR1_8.out HB.out) | (with_reducible refine Kd.C_alloc ?_ _) | (with_reducible refine Kd.C_drewN ?_ _) | (with_reducible refine Kd.C_drew ?_))); (case side6 => exact HC1_8.out); rintro e w37 ⟨rfl, hb⟩; refine ⟨_, rfl, ?_⟩;  replace BK220 := bk_ BK220 hb; replace BK221 := bk_ BK221 hb; replace HB := bs_ HB hb; (try clear hb); (try clear hb2); (try clear hk); (try clear hi); obtain ⟨C38_0, C38_1, C38_2⟩ := zc3_ BK221.out; obtain ⟨F38_0, F38_1, F38_2⟩ := zf3_ BK221.out))
 refine bodyPost_ret (results_ct rfl _ _ gb221 35 #[.bool t227, .bool t228, .bool t229] (0, 0) _ rfl (by (with_reducible repeat (first | refine Ag ?_ _ | refine Af ?_ | refine Ae ?_ _)); apply Cf; (with_reducible repeat (first | refine Ag ?_ _ | refine Af ?_ | refine Ae ?_ _)); exact BK221.out) Try.underlying35 rfl (by kernel_rfl)) rfl ?_
 exact en_ HB))))
 ·(
 rw [if_neg c6] at H
 have c6b0 : ((l2.length : Int) == (l0.length : Int)) = false := Dj c6
 have c6b1 : ((l2.length : Int) != (l0.length : Int)) = true := Dm c6
 have c6b2 : (l2.length == l0.length) = false := by first | simpa using c6 | (simp at c6 ⊢; omega)
 simp only [Option.some.injEq, Prod.mk.injEq] at H
 obtain ⟨rfl, rfl, rfl, rfl⟩ := H
 go_enter Try.func12, Try.ntmps12
 go_wp2_with (first | (refine bx_ (N := 4) (cs := #[.int .i64 a1_0, .string a1_1, .int .i64 a1_2, .bool a1_3, .int .i64 a1_4, .string a1_5, .int .i64 a1_6, .string a1_7, .slice A1_8 l1_8.length c1_8]) (t := 27) ?_; intro gb220 hg w39 hbox hb; have BK220 := Aa.mk (hbox); have GW220 := ge_ HB hg; have GE220 := ge_ HB hg; replace HB := bs_ HB hb; clear hb hbox hg) | (refine bx_ (N := 6) (cs := #[.bool false, .bool false, .bool false]) (t := 35) ?_; intro gb221 hg w40 hbox hb; have BK221 := Aa.mk (hbox); have GW221 := ge_ HB hg; have GE221 := ge_ HB hg; have NB220_221 := lt_ BK220 hg; have NB221_220 := gt_ BK220 hg; replace BK220 := bk_ BK220 hb; replace HB := bs_ HB hb; clear hb hbox hg; have hnb41 := NB220_221.out; have hnc41 := NB221_220.out; obtain ⟨C42_0, C42_1, C42_2, C42_3, C42_4, C42_5, C42_6, C42_7, C42_8⟩ := zc9_ BK220.out; obtain ⟨F42_0, F42_1, F42_2, F42_3, F42_4, F42_5, F42_6, F42_7, F42_8⟩ := zf9_ BK220.out) | ((with_reducible refine Aw (f := 27) rfl ?_); refine gl_ (some 13) rfl Try.func27 #[.slice A0 l0.length c0, .agg #[.int .i64 a1_0, .string a1_1, .int .i64 a1_2, .bool a1_3, .int .i64 a1_4, .string a1_5, .int .i64 a1_6, .string a1_7, .slice A1_8 l1_8.length c1_8]] ?_; (with_reducible refine (Db.calls _ _ l0 a1_0 a1_1 a1_2 a1_3 a1_4 a1_5 a1_6 a1_7 _ _ l1_8 t222 _ ?side1 ?side2 ?side3 ?side4 A4.out).mono ?_); (case side1 => repeat (first | exact (Kd.C_below HR0.out HB.out) | (with_reducible refine Kd.C_alloc ?_ _) | (with_reducible refine Kd.C_drewN ?_ _) | (with_reducible refine Kd.C_drew ?_))); (case side2 => exact HC0.out); (case side3 => repeat (first | exact (Kd.C_below HR1_8.out HB.out) | (with_reducible refine Kd.C_alloc ?_ _) | (with_reducible refine Kd.C_drewN ?_ _) | (with_reducible refine Kd.C_drew ?_))); (case side4 => exact HC1_8.out); rintro e w43 ⟨rfl, hb⟩; refine ⟨_, rfl, ?_⟩;  replace BK220 := bk_ BK220 hb; replace BK221 := bk_ BK221 hb; replace HB := bs_ HB hb; (try clear hb); (try clear hb2); (try clear hk); (try clear hi); obtain ⟨C44_0, C44_1, C44_2⟩ := zc3_ BK221.out; obtain ⟨F44_0, F44_1, F44_2⟩ := zf3_ BK221.out))
 refine bodyPost_ret (results_ct rfl _ _ gb221 35 #[.bool false, .bool false, .bool false] (0, 0) _ rfl (by (with_reducible repeat (first | refine Ag ?_ _ | refine Af ?_ | refine Ae ?_ _)); apply Cf; (with_reducible repeat (first | refine Ag ?_ _ | refine Af ?_ | refine Ae ?_ _)); exact BK221.out) Try.underlying35 rfl (by kernel_rfl)) rfl ?_
 exact en_ HB))
 ·(
 rw [if_neg c5] at H
 have c5b0 : (t222 == 0) = false := Dj c5
 have c5b1 : (t222 != 0) = true := Dm c5
 simp only [Option.some.injEq, Prod.mk.injEq] at H
 obtain ⟨rfl, rfl, rfl, rfl⟩ := H
 go_enter Try.func12, Try.ntmps12
 go_wp2_with (first | (refine bx_ (N := 4) (cs := #[.int .i64 a1_0, .string a1_1, .int .i64 a1_2, .bool a1_3, .int .i64 a1_4, .string a1_5, .int .i64 a1_6, .string a1_7, .slice A1_8 l1_8.length c1_8]) (t := 27) ?_; intro gb220 hg w45 hbox hb; have BK220 := Aa.mk (hbox); have GW220 := ge_ HB hg; have GE220 := ge_ HB hg; replace HB := bs_ HB hb; clear hb hbox hg) | (refine bx_ (N := 6) (cs := #[.bool false, .bool false, .bool false]) (t := 35) ?_; intro gb221 hg w46 hbox hb; have BK221 := Aa.mk (hbox); have GW221 := ge_ HB hg; have GE221 := ge_ HB hg; have NB220_221 := lt_ BK220 hg; have NB221_220 := gt_ BK220 hg; replace BK220 := bk_ BK220 hb; replace HB := bs_ HB hb; clear hb hbox hg; have hnb47 := NB220_221.out; have hnc47 := NB221_220.out; obtain ⟨C48_0, C48_1, C48_2, C48_3, C48_4, C48_5, C48_6, C48_7, C48_8⟩ := zc9_ BK220.out; obtain ⟨F48_0, F48_1, F48_2, F48_3, F48_4, F48_5, F48_6, F48_7, F48_8⟩ := zf9_ BK220.out) | ((with_reducible refine Aw (f := 27) rfl ?_); refine gl_ (some 13) rfl Try.func27 #[.slice A0 l0.length c0, .agg #[.int .i64 a1_0, .string a1_1, .int .i64 a1_2, .bool a1_3, .int .i64 a1_4, .string a1_5, .int .i64 a1_6, .string a1_7, .slice A1_8 l1_8.length c1_8]] ?_; (with_reducible refine (Db.calls _ _ l0 a1_0 a1_1 a1_2 a1_3 a1_4 a1_5 a1_6 a1_7 _ _ l1_8 t222 _ ?side1 ?side2 ?side3 ?side4 A4.out).mono ?_); (case side1 => repeat (first | exact (Kd.C_below HR0.out HB.out) | (with_reducible refine Kd.C_alloc ?_ _) | (with_reducible refine Kd.C_drewN ?_ _) | (with_reducible refine Kd.C_drew ?_))); (case side2 => exact HC0.out); (case side3 => repeat (first | exact (Kd.C_below HR1_8.out HB.out) | (with_reducible refine Kd.C_alloc ?_ _) | (with_reducible refine Kd.C_drewN ?_ _) | (with_reducible refine Kd.C_drew ?_))); (case side4 => exact HC1_8.out); rintro e w49 ⟨rfl, hb⟩; refine ⟨_, rfl, ?_⟩;  replace BK220 := bk_ BK220 hb; replace BK221 := bk_ BK221 hb; replace HB := bs_ HB hb; (try clear hb); (try clear hb2); (try clear hk); (try clear hi); obtain ⟨C50_0, C50_1, C50_2⟩ := zc3_ BK221.out; obtain ⟨F50_0, F50_1, F50_2⟩ := zf3_ BK221.out))
 refine bodyPost_ret (results_ct rfl _ _ gb221 35 #[.bool false, .bool false, .bool false] (0, 0) _ rfl (by (with_reducible repeat (first | refine Ag ?_ _ | refine Af ?_ | refine Ae ?_ _)); apply Cf; (with_reducible repeat (first | refine Ag ?_ _ | refine Af ?_ | refine Ae ?_ _)); exact BK221.out) Try.underlying35 rfl (by kernel_rfl)) rfl ?_
 exact en_ HB)
theorem Ev.const {α : Type} {o : Option α} {r : α} (h : o = some r) : Ev (fun _ => o) r := ⟨0, fun _ _ => h⟩
def Tot {α : Type} (g : Nat → Option α) : Prop := ∃ r, Ev g r
theorem Tot.some_ {α : Type} (r : α) : Tot (fun _ => some r) := ⟨r, Ev.now r⟩
theorem Tot.const {α : Type} {o : Option α} (h : Ans o) : Tot (fun _ => o) := by
 obtain ⟨r, h⟩ := h
 exact ⟨r, Ev.const h⟩
theorem Tot.ite {α : Type} {c : Prop} [Decidable c] {f g : Nat → Option α} (h : c → Tot f) (h' : ¬ c → Tot g) : Tot (fun k => if c then f k else g k) := by
 by_cases hc : c
 ·simp only [if_pos hc]; exact h hc
 ·simp only [if_neg hc]; exact h' hc
theorem Tot.bind {α β : Type} {g : Nat → Option α} {f : Nat → α → Option β} (h : Tot g) (k : ∀ x, Tot (fun n => f n x)) : Tot (fun n => (g n).bind (f n)) := by
 obtain ⟨x, hx⟩ := h
 obtain ⟨r, hr⟩ := k x
 exact ⟨r, Ev.bind hx hr⟩
theorem Tot.succ {α : Type} {g f : Nat → Option α} (h : ∀ k, g (k + 1) = f k) (k : Tot f) : Tot g := by
 obtain ⟨r, hr⟩ := k
 exact ⟨r, Ev.step h hr⟩
theorem or3 (a b c : Int) (k : Nat) : Bq.f (k + 4) [a, b, c] = some (if a = 0 then (if b = 0 then c else b) else a) := by
 have w0 : wrap64 1 = 1 := by unfold wrap64; omega
 have w1 : wrap64 2 = 2 := by unfold wrap64; omega
 have w2 : wrap64 3 = 3 := by unfold wrap64; omega
 by_cases ha : a = 0
 ·(
 by_cases hb : b = 0
 ·(
 by_cases hc : c = 0
 ·simp [Bq.f, Bq.l0, rd, ha, hb, hc, w0, w1, w2]
 ·simp [Bq.f, Bq.l0, rd, ha, hb, hc, w0, w1, w2])
 ·simp [Bq.f, Bq.l0, rd, ha, hb, w0, w1, w2])
 ·simp [Bq.f, Bq.l0, rd, ha, w0, w1, w2]
theorem or3_ev (a b c : Int) : Ev (fun k => Bq.f k [a, b, c]) (if a = 0 then (if b = 0 then c else b) else a) :=
  ⟨4, fun k hk => by obtain ⟨m, rfl⟩ : ∃ m, k = m + 4 := ⟨k - 4, by omega⟩; exact or3 a b c m⟩
def cmpI (a b : Int) : Int := if a < b then -1 else if a > b then 1 else 0
def cmpT (a b : ByteArray) : Int := if Op.bytesLess a.toList b.toList = true then -1 else if a.toList = b.toList then 0 else 1
theorem cmpI_f (a b : Int) : Cu.f a b = some (cmpI a b) := by
 simp only [Cu.f, Ck.f, Option.bind_some, bne_self_eq_false, cmpI]
 simp
 split <;> simp_all
 split <;> simp_all
theorem cmpI64_f (a b : Int) : Cn.f a b = some (cmpI a b) := by
 simp only [Cn.f, Ce.f, Option.bind_some, bne_self_eq_false, cmpI]
 simp
 split <;> simp_all
 split <;> simp_all
theorem cmpT_f (a b : ByteArray) : Cj.f a b = some (cmpT a b) := by
 simp only [Cj.f, Bx.f, Option.bind_some, bne_self_eq_false, cmpT]
 simp
 split <;> simp_all
 split <;> simp_all
def flagI (b : Bool) : Int := if b then 0 else 1
theorem flag_f (a : Bool) (b : Int) (c : ByteArray) : Dd.f a b c = some (flagI a) := by
 cases a <;> rfl
def ord (a0 : Bool) (a1 : Int) (a2 : ByteArray) (b0 : Bool) (b1 : Int) (b2 : ByteArray) : Int :=
  if cmpI (flagI a0) (flagI b0) = 0 then (if cmpI a1 b1 = 0 then cmpT a2 b2 else cmpI a1 b1) else cmpI (flagI a0) (flagI b0)
theorem ord_ev (a0 : Bool) (a1 : Int) (a2 : ByteArray) (b0 : Bool) (b1 : Int) (b2 : ByteArray) : Ev (fun k => Bl.f k a0 a1 a2 b0 b1 b2) (ord a0 a1 a2 b0 b1 b2) := by
 obtain ⟨K, h⟩ := or3_ev (cmpI (flagI a0) (flagI b0)) (cmpI a1 b1) (cmpT a2 b2)
 refine ⟨K, fun k hk => ?_⟩
 have := h k hk
 simp only [Bl.f, flag_f, Option.bind_some, cmpI_f, cmpI64_f, cmpT_f, this, ord]
theorem fields_cases (x : S27) (h : fieldsB x = true) : x.f0 = 1 ∨ ((x.f0 = 2 ∨ x.f0 = 3 ∨ x.f0 = 4) ∧ nameB x.f1 = true) ∨ (x.f0 = 5 ∨ x.f0 = 6 ∨ x.f0 = 7) := by
 have hs := fields_some x
 rw [h] at hs
 by_cases h1 : x.f0 = 1
 ·exact .inl h1
 by_cases h5 : x.f0 = 5 ∨ x.f0 = 6 ∨ x.f0 = 7
 ·exact .inr (.inr h5)
 have h5' : x.f0 ≠ 5 ∧ x.f0 ≠ 6 ∧ x.f0 ≠ 7 := by omega
 refine .inr (.inl ?_)
 unfold Da.f at hs
 obtain ⟨b, _, hs⟩ := Option.bind_eq_some_iff.1 hs
 obtain ⟨c, _, hs⟩ := Option.bind_eq_some_iff.1 hs
 simp only [Bt.f, Option.bind_some] at hs
 by_cases h2 : x.f0 = 2
 ·(
 refine ⟨.inl h2, ?_⟩
 cases hn : nameB x.f1
 ·rw [hn] at hs; simp [h2] at hs
 ·rfl)
 by_cases h3 : x.f0 = 3
 ·(
 refine ⟨.inr (.inl h3), ?_⟩
 cases hn : nameB x.f1
 ·rw [hn] at hs; simp [h3] at hs
 ·rfl)
 by_cases h4 : x.f0 = 4
 ·(
 refine ⟨.inr (.inr h4), ?_⟩
 cases hn : nameB x.f1
 ·rw [hn] at hs; simp [h4] at hs
 ·rfl)
 exfalso
 have hlt : x.f0 < 5 ∨ 7 < x.f0 := by omega
 simp [h1, h2, h3, h4] at hs
 rcases hlt with hlt | hlt
 ·(
 have : ¬ (5 ≤ x.f0) := by omega
 simp [this] at hs)
 ·(
 have h5 : 5 ≤ x.f0 := by omega
 have : ¬ (x.f0 ≤ 7) := by omega
 simp [h5, this] at hs)
theorem name_ne (s : ByteArray) (h : nameB s = true) : s.toList ≠ [] := by
 intro e
 have : s.size = 0 := by(
 rw [ByteArray.toList_eq] at e
 have := data_length s
 rw [e] at this
 exact this.symm)
 simp [nameB, this] at h
theorem typed_found (l : List S64) (x : S27) (h : typedB l x = true) (hn : x.f1.toList ≠ []) : 0 ≤ idxOf (fun y : S64 => y.f0.toList == x.f1.toList) l := by
 have hs := typed_some l x
 rw [h] at hs
 unfold Dc.f Bw.f at hs
 rw [if_neg hn] at hs
 simp only [Option.bind_some] at hs
 cases hd : decide (0 ≤ idxOf (fun y : S64 => y.f0.toList == x.f1.toList) l)
 ·rw [hd] at hs; simp at hs
 ·exact of_decide_eq_true hd
def Good {σ : Type} (st : S27 → σ → Bool × σ) (d : Nat) (x : S27) : Prop := ∃ s, (ev st d x s).1 = true
theorem evL_all {σ : Type} (f : S27 → σ → Bool × σ) : ∀ (l : List S27) (s : σ), (evL f l s).1 = true → ∀ y, y ∈ l → ∃ s', (f y s').1 = true
  | [], _, _, y, hy => by cases hy
  | x :: r, s, h, y, hy => by
    unfold evL at h
    cases hb : (f x s).1 with
    | false => rw [hb] at h; simp at h
    | true =>
      rw [hb] at h
      rcases List.mem_cons.1 hy with rfl | hy
      · exact ⟨s, hb⟩
      · exact evL_all f r _ (by simpa using h) y hy
theorem Good.step {σ : Type} {st : S27 → σ → Bool × σ} {d : Nat} {x : S27} (h : Good st d x) : ∃ e, d = e + 1 ∧ (∃ s, (st x s).1 = true) ∧ ∀ y, y ∈ x.f6 → Good st e y := by
 obtain ⟨s, h⟩ := h
 cases d with
 | zero => simp [ev] at h
 | succ e =>(
 refine ⟨e, rfl, ?_⟩
 unfold ev at h
 cases hb : (st x s).1 with
 | false => rw [hb] at h; simp at h
 | true =>(
 rw [hb] at h
 exact ⟨⟨s, hb⟩, evL_all _ _ _ (by simpa using h)⟩))
theorem wrap_in {i : Int} (h0 : -9223372036854775808 ≤ i) (h1 : i ≤ 9223372036854775807) : wrap64 i = i := by unfold wrap64; omega
theorem rd27_mem (l : List S27) (i : Nat) (h : i < l.length) : Al l (i : Int) ∈ l := by
 simp only [Al, Int.toNat_natCast, List.getD_eq_getElem?_getD, List.getElem?_eq_getElem h, Option.getD_some]
 exact List.getElem_mem h
theorem kids_len (op : Int) (ks : List S27) (h : kidsB op ks = true) (h5 : op = 5) : ks.length = 1 := by
 subst h5
 simpa [kidsB] using h
def Lens : Nat → S27 → Prop
  | 0, _ => True
  | d + 1, x => x.f6.length ≤ 9223372036854775806 ∧ ∀ y, y ∈ x.f6 → Lens d y
theorem cellMay_ans (a : Int) (b c : Bool) (d : Int) (e : ByteArray) : Ans (Br.f a b c d e) := by
 unfold Br.f
 repeat' (first | exact Ans.some_ _ | refine Ans.ite ?_ ?_)
theorem eqA35 (d : Nat) (w : World) (x0 y0 : Bool) (x1 y1 : Bool) (x2 y2 : Bool) :
    (Op.equalIn (d + 2) 35 (.agg #[.bool x0, .bool x1, .bool x2]) (.agg #[.bool y0, .bool y1, .bool y2])).run Try.prog w = .ok (x0 == y0 && (x1 == y1 && (x2 == y2))) w := by
 refine eqA_of Try.underlying35 (by kernel_rfl) ?_
 refine eqf_cons (by rfl) (by go_simp; rfl) (by go_simp; rfl) (by go_simp) ?_
 refine eqf_cons (by rfl) (by go_simp; rfl) (by go_simp; rfl) (by go_simp) ?_
 exact eqf_last (by rfl) (by go_simp; rfl) (by go_simp; rfl) (by go_simp)
def Ch.f (a0 : Int) : Option (Int) := some a0
theorem Ch.calls (a0 : Int) (r : Int) (w : World) (h : Ch.f a0 = some r) :
  Calls Try.prog 14 #[.int .i64 a0] w fun e w' => e = .returned (.int .i64 r) ∧ Bp w w' := by
 have H : (some a0) = some r := h
 clear h
 obtain rfl := Dp H
 go_enter Try.func14, Try.ntmps14
 go_wp2
 go_ret
 exact ⟨by first | rfl | (simp; done) | (simp [*]; done), by repeat (first | exact Bp.refl _ | apply Bp.step)⟩
attribute [local go_sem high] eqA35
def prune_none.f (a0_0 : Bool) (a0_1 : Bool) (a0_2 : Bool) : Option (Bool) := some (!a0_0)
theorem prune_none.calls (a0_0 : Bool) (a0_1 : Bool) (a0_2 : Bool) (r : Bool) (w : World) (h : prune_none.f a0_0 a0_1 a0_2 = some r) :
  Calls Try.prog 33 #[.agg #[.bool a0_0, .bool a0_1, .bool a0_2]] w fun e w' => e = .returned (.bool r) ∧ Below w.heap.size w w' := by
 have hu35 := Try.underlying35
 have HB := Aa.mk (Below.refl w.heap.size w)
 have H : (some (!a0_0)) = some r := h
 clear h
 obtain rfl := Dp H
 go_enter Try.func33, Try.ntmps33
 go_wp2_with (first | (refine bx_ (N := 1) (cs := #[.bool a0_0, .bool a0_1, .bool a0_2]) (t := 35) ?_; intro gb230 hg w2 hbox hb; have BK230 := Aa.mk (hbox); have GW230 := ge_ HB hg; have GE230 := ge_ HB hg; replace HB := bs_ HB hb; clear hb hbox hg; obtain ⟨C3_0, C3_1, C3_2⟩ := zc3_ BK230.out; obtain ⟨F3_0, F3_1, F3_2⟩ := zf3_ BK230.out))
 go_ret
 exact en_ HB
def Ci.f (k : Nat) (l0 : List (S64)) (a1_0 : Int) (a1_1 : ByteArray) (a1_2 : Int) (a1_3 : Bool) (a1_4 : Int) (a1_5 : ByteArray) (a1_6 : Int) (a1_7 : ByteArray) (l1_8 : List (S27)) (l2 : List (S33)) : Option (Bool) := (Bo.f k l0 a1_0 a1_1 a1_2 a1_3 a1_4 a1_5 a1_6 a1_7 l1_8 l2).bind fun bt232 => (if bt232.2.2.2 = 0 then ((prune_none.f bt232.1 bt232.2.1 bt232.2.2.1).bind fun t237 => (some t237)) else (some false))
theorem Ci.mono : ∀ a0 a1 a2 a3 a4 a5 a6 a7 a8 a9 a10 k, LeO (Ci.f k a0 a1 a2 a3 a4 a5 a6 a7 a8 a9 a10) (Ci.f (k + 1) a0 a1 a2 a3 a4 a5 a6 a7 a8 a9 a10) := by
 intro a0 a1 a2 a3 a4 a5 a6 a7 a8 a9 a10 k
 unfold Ci.f
 repeat' first|(with_reducible first|exact Bo.mono _ _ _ _ _ _ _ _ _ _ _ _|exact LeO.refl _|exact LeO.none _|refine LeO.ite ?_ ?_|refine LeO.bind ?_ fun _=>?_)|exact Bo.mono _ _ _ _ _ _ _ _ _ _ _ _|exact LeO.none _|refine LeO.ite ?_ ?_|refine LeO.bind ?_ fun _=>?_
theorem Ci.calls (k : Nat) (A0 : Option Addr) (c0 : Nat) (l0 : List (S64)) (a1_0 : Int) (a1_1 : ByteArray) (a1_2 : Int) (a1_3 : Bool) (a1_4 : Int) (a1_5 : ByteArray) (a1_6 : Int) (a1_7 : ByteArray) (A1_8 : Option Addr) (c1_8 : Nat) (l1_8 : List (S27)) (A2 : Option Addr) (c2 : Nat) (l2 : List (S33)) (r : Bool) (w : World) (hr0 : Kd.C k64 w A0 l0.length l0) (hc0 : l0.length ≤ c0) (hr1_8 : Kd.C k27 w A1_8 l1_8.length l1_8) (hc1_8 : l1_8.length ≤ c1_8) (hr2 : Kd.C k33 w A2 l2.length l2) (hc2 : l2.length ≤ c2) (h : Ci.f k l0 a1_0 a1_1 a1_2 a1_3 a1_4 a1_5 a1_6 a1_7 l1_8 l2 = some r) :
  Calls Try.prog 15 #[.slice A0 l0.length c0, .agg #[.int .i64 a1_0, .string a1_1, .int .i64 a1_2, .bool a1_3, .int .i64 a1_4, .string a1_5, .int .i64 a1_6, .string a1_7, .slice A1_8 l1_8.length c1_8], .slice A2 l2.length c2] w fun e w' => e = .returned (.bool r) ∧ Below w.heap.size w w' := by
 have hu27 := Try.underlying27
 have hu35 := Try.underlying35
 have HR0 := Aa.mk hr0
 have HC0 := Aa.mk hc0
 clear hr0 hc0
 have HR1_8 := Aa.mk hr1_8
 have HC1_8 := Aa.mk hc1_8
 clear hr1_8 hc1_8
 have HR2 := Aa.mk hr2
 have HC2 := Aa.mk hc2
 clear hr2 hc2
 have HB := Aa.mk (Below.refl w.heap.size w)
 have H : ((Bo.f k l0 a1_0 a1_1 a1_2 a1_3 a1_4 a1_5 a1_6 a1_7 l1_8 l2).bind fun bt232 => (if bt232.2.2.2 = 0 then ((prune_none.f bt232.1 bt232.2.1 bt232.2.2.1).bind fun t237 => (some t237)) else (some false))) = some r := h
 clear h
 replace H := Dn H
 obtain ⟨⟨t232, t233, t234, t235⟩, A40, H⟩ := H
 replace H : (if t235 = 0 then ((prune_none.f t232 t233 t234).bind fun t237 => (some t237)) else (some false)) = some r := H
 have A4 := Aa.mk A40
 clear A40
 by_cases c5 : t235 = 0
 ·(
 rw [if_pos c5] at H
 have c5b0 : (t235 == 0) = true := Dl c5
 have c5b1 : (t235 != 0) = false := Dk c5
 clear c5
 replace H := Dn H
 obtain ⟨t237, A60, H⟩ := H
 replace H : (some t237) = some r := H
 have A6 := Aa.mk A60
 clear A60
 obtain rfl := Dp H
 go_enter Try.func15, Try.ntmps15
 go_wp2_with (first | (refine bx_ (N := 4) (cs := #[.int .i64 a1_0, .string a1_1, .int .i64 a1_2, .bool a1_3, .int .i64 a1_4, .string a1_5, .int .i64 a1_6, .string a1_7, .slice A1_8 l1_8.length c1_8]) (t := 27) ?_; intro gb231 hg w7 hbox hb; have BK231 := Aa.mk (hbox); have GW231 := ge_ HB hg; have GE231 := ge_ HB hg; replace HB := bs_ HB hb; clear hb hbox hg; obtain ⟨C8_0, C8_1, C8_2, C8_3, C8_4, C8_5, C8_6, C8_7, C8_8⟩ := zc9_ BK231.out; obtain ⟨F8_0, F8_1, F8_2, F8_3, F8_4, F8_5, F8_6, F8_7, F8_8⟩ := zf9_ BK231.out) | ((with_reducible refine Aw (f := 12) rfl ?_); refine gl_ (some 13) rfl Try.func12 #[.slice A0 l0.length c0, .agg #[.int .i64 a1_0, .string a1_1, .int .i64 a1_2, .bool a1_3, .int .i64 a1_4, .string a1_5, .int .i64 a1_6, .string a1_7, .slice A1_8 l1_8.length c1_8], .slice A2 l2.length c2] ?_; (with_reducible refine (Bo.calls k _ _ l0 a1_0 a1_1 a1_2 a1_3 a1_4 a1_5 a1_6 a1_7 _ _ l1_8 _ _ l2 t232 t233 t234 t235 _ ?side1 ?side2 ?side3 ?side4 ?side5 ?side6 A4.out).mono ?_); (case side1 => repeat (first | exact (Kd.C_below HR0.out HB.out) | (with_reducible refine Kd.C_alloc ?_ _) | (with_reducible refine Kd.C_drewN ?_ _) | (with_reducible refine Kd.C_drew ?_))); (case side2 => exact HC0.out); (case side3 => repeat (first | exact (Kd.C_below HR1_8.out HB.out) | (with_reducible refine Kd.C_alloc ?_ _) | (with_reducible refine Kd.C_drewN ?_ _) | (with_reducible refine Kd.C_drew ?_))); (case side4 => exact HC1_8.out); (case side5 => repeat (first | exact (Kd.C_below HR2.out HB.out) | (with_reducible refine Kd.C_alloc ?_ _) | (with_reducible refine Kd.C_drewN ?_ _) | (with_reducible refine Kd.C_drew ?_))); (case side6 => exact HC2.out); rintro e w9 ⟨rfl, hb⟩; refine ⟨_, rfl, ?_⟩;  replace BK231 := bk_ BK231 hb; replace HB := bs_ HB hb; (try clear hb)) | (refine bx_ (N := 7) (cs := #[.bool false, .bool false, .bool false]) (t := 35) ?_; intro gb236 hg w10 hbox hb; have BK236 := Aa.mk (hbox); have GW236 := ge_ HB hg; have GE236 := ge_ HB hg; have NB231_236 := lt_ BK231 hg; have NB236_231 := gt_ BK231 hg; replace BK231 := bk_ BK231 hb; replace HB := bs_ HB hb; clear hb hbox hg; have hnb11 := NB236_231.out; have hnc11 := NB231_236.out; obtain ⟨C12_0, C12_1, C12_2⟩ := zc3_ BK236.out; obtain ⟨F12_0, F12_1, F12_2⟩ := zf3_ BK236.out) | (go_at_call 33; (with_reducible refine (prune_none.calls t232 t233 t234 t237 _ A6.out).mono ?_); rintro e w13 ⟨rfl, hb⟩; have n0_ := Aa.mk (Ct (g := gb231) (o := .cells #[.int .i64 a1_0, .string a1_1, .int .i64 a1_2, .bool a1_3, .int .i64 a1_4, .string a1_5, .int .i64 a1_6, .string a1_7, .slice A1_8 l1_8.length c1_8] 27 (0, 0)) (by (iterate 3 ((with_reducible repeat (first | refine Ag ?_ _ | refine Af ?_ | refine Ae ?_ _)); refine Bv ?_ NB231_236.out _)); (with_reducible repeat (first | refine Ag ?_ _ | refine Af ?_ | refine Ae ?_ _)); exact BK231.out) hb); have n1_ := Aa.mk (Ct (g := gb236) (o := .cells #[.bool t232, .bool t233, .bool t234] 35 (0, 0)) (by (with_reducible repeat (first | refine Ag ?_ _ | refine Af ?_ | refine Ae ?_ _)); apply Cf; (with_reducible repeat (first | refine Ag ?_ _ | refine Af ?_ | refine Ae ?_ _)); exact BK236.out) hb); have n2_ := bs_ HB hb; clear BK231; clear BK236; clear HB; have BK231 := n0_; have BK236 := n1_; have HB := n2_; clear n0_ n1_ n2_; (try clear hb)))
 go_ret
 exact en_ HB)
 ·(
 rw [if_neg c5] at H
 have c5b0 : (t235 == 0) = false := Dj c5
 have c5b1 : (t235 != 0) = true := Dm c5
 obtain rfl := Dp H
 go_enter Try.func15, Try.ntmps15
 go_wp2_with (first | (refine bx_ (N := 4) (cs := #[.int .i64 a1_0, .string a1_1, .int .i64 a1_2, .bool a1_3, .int .i64 a1_4, .string a1_5, .int .i64 a1_6, .string a1_7, .slice A1_8 l1_8.length c1_8]) (t := 27) ?_; intro gb231 hg w14 hbox hb; have BK231 := Aa.mk (hbox); have GW231 := ge_ HB hg; have GE231 := ge_ HB hg; replace HB := bs_ HB hb; clear hb hbox hg; obtain ⟨C15_0, C15_1, C15_2, C15_3, C15_4, C15_5, C15_6, C15_7, C15_8⟩ := zc9_ BK231.out; obtain ⟨F15_0, F15_1, F15_2, F15_3, F15_4, F15_5, F15_6, F15_7, F15_8⟩ := zf9_ BK231.out) | ((with_reducible refine Aw (f := 12) rfl ?_); refine gl_ (some 13) rfl Try.func12 #[.slice A0 l0.length c0, .agg #[.int .i64 a1_0, .string a1_1, .int .i64 a1_2, .bool a1_3, .int .i64 a1_4, .string a1_5, .int .i64 a1_6, .string a1_7, .slice A1_8 l1_8.length c1_8], .slice A2 l2.length c2] ?_; (with_reducible refine (Bo.calls k _ _ l0 a1_0 a1_1 a1_2 a1_3 a1_4 a1_5 a1_6 a1_7 _ _ l1_8 _ _ l2 t232 t233 t234 t235 _ ?side1 ?side2 ?side3 ?side4 ?side5 ?side6 A4.out).mono ?_); (case side1 => repeat (first | exact (Kd.C_below HR0.out HB.out) | (with_reducible refine Kd.C_alloc ?_ _) | (with_reducible refine Kd.C_drewN ?_ _) | (with_reducible refine Kd.C_drew ?_))); (case side2 => exact HC0.out); (case side3 => repeat (first | exact (Kd.C_below HR1_8.out HB.out) | (with_reducible refine Kd.C_alloc ?_ _) | (with_reducible refine Kd.C_drewN ?_ _) | (with_reducible refine Kd.C_drew ?_))); (case side4 => exact HC1_8.out); (case side5 => repeat (first | exact (Kd.C_below HR2.out HB.out) | (with_reducible refine Kd.C_alloc ?_ _) | (with_reducible refine Kd.C_drewN ?_ _) | (with_reducible refine Kd.C_drew ?_))); (case side6 => exact HC2.out); rintro e w16 ⟨rfl, hb⟩; refine ⟨_, rfl, ?_⟩;  replace BK231 := bk_ BK231 hb; replace HB := bs_ HB hb; (try clear hb)) | (refine bx_ (N := 7) (cs := #[.bool false, .bool false, .bool false]) (t := 35) ?_; intro gb236 hg w17 hbox hb; have BK236 := Aa.mk (hbox); have GW236 := ge_ HB hg; have GE236 := ge_ HB hg; have NB231_236 := lt_ BK231 hg; have NB236_231 := gt_ BK231 hg; replace BK231 := bk_ BK231 hb; replace HB := bs_ HB hb; clear hb hbox hg; have hnb18 := NB236_231.out; have hnc18 := NB231_236.out; obtain ⟨C19_0, C19_1, C19_2⟩ := zc3_ BK236.out; obtain ⟨F19_0, F19_1, F19_2⟩ := zf3_ BK236.out))
 go_ret
 exact en_ HB)
attribute [local go_sem high] eqA35
def Bn.f (k : Nat)  : Option (Bool) := (some (([(⟨(⟨#[97]⟩ : ByteArray), 1, false⟩ : S64)] : List (S64)) : List (S64))).bind fun y238 => ((some (([(⟨2, 0, (⟨false, 1, (⟨#[]⟩ : ByteArray)⟩ : S24), (⟨false, 5, (⟨#[]⟩ : ByteArray)⟩ : S24)⟩ : S33)] : List (S33)) : List (S33))).bind fun y241 => ((Bo.f k y238 2 (⟨#[97]⟩ : ByteArray) 5 false 5 (⟨#[]⟩ : ByteArray) 1 (⟨#[]⟩ : ByteArray) ([] : List (S27)) y241).bind fun bt245 => ((Ch.f bt245.2.2.2).bind fun t250 => (if t250 = 0 then (if (!bt245.1 && (bt245.2.1 && (!bt245.2.2.1))) = true then ((Ci.f k y238 2 (⟨#[97]⟩ : ByteArray) 5 false 5 (⟨#[]⟩ : ByteArray) 1 (⟨#[]⟩ : ByteArray) ([] : List (S27)) y241).bind fun t251 => (some t251)) else (some false)) else (some false)))))
theorem Bn.mono : ∀ k, LeO (Bn.f k ) (Bn.f (k + 1) ) := by
 intro  k
 unfold Bn.f
 repeat' first|(with_reducible first|exact Bo.mono _ _ _ _ _ _ _ _ _ _ _ _|exact Ci.mono _ _ _ _ _ _ _ _ _ _ _ _|exact LeO.refl _|exact LeO.none _|refine LeO.ite ?_ ?_|refine LeO.bind ?_ fun _=>?_)|exact Bo.mono _ _ _ _ _ _ _ _ _ _ _ _|exact Ci.mono _ _ _ _ _ _ _ _ _ _ _ _|exact LeO.none _|refine LeO.ite ?_ ?_|refine LeO.bind ?_ fun _=>?_
theorem Bn.calls (k : Nat)  (r : Bool) (w : World) (h : Bn.f k  = some r) :
  Calls Try.prog 11 #[] w fun e w' => e = .returned (.bool r) ∧ Below w.heap.size w w' := by
 have hu64 := Try.underlying64
 have hu24 := Try.underlying24
 have hu33 := Try.underlying33
 have hu27 := Try.underlying27
 have hu35 := Try.underlying35
 have HB := Aa.mk (Below.refl w.heap.size w)
 have H : ((some (([(⟨(⟨#[97]⟩ : ByteArray), 1, false⟩ : S64)] : List (S64)) : List (S64))).bind fun y238 => ((some (([(⟨2, 0, (⟨false, 1, (⟨#[]⟩ : ByteArray)⟩ : S24), (⟨false, 5, (⟨#[]⟩ : ByteArray)⟩ : S24)⟩ : S33)] : List (S33)) : List (S33))).bind fun y241 => ((Bo.f k y238 2 (⟨#[97]⟩ : ByteArray) 5 false 5 (⟨#[]⟩ : ByteArray) 1 (⟨#[]⟩ : ByteArray) ([] : List (S27)) y241).bind fun bt245 => ((Ch.f bt245.2.2.2).bind fun t250 => (if t250 = 0 then (if (!bt245.1 && (bt245.2.1 && (!bt245.2.2.1))) = true then ((Ci.f k y238 2 (⟨#[97]⟩ : ByteArray) 5 false 5 (⟨#[]⟩ : ByteArray) 1 (⟨#[]⟩ : ByteArray) ([] : List (S27)) y241).bind fun t251 => (some t251)) else (some false)) else (some false)))))) = some r := h
 clear h
 obtain ⟨y238, hy238⟩ : ∃ y_ : List (S64), y_ = (([(⟨(⟨#[97]⟩ : ByteArray), 1, false⟩ : S64)] : List (S64))) := ⟨_, rfl⟩
 replace H : ((some (([(⟨2, 0, (⟨false, 1, (⟨#[]⟩ : ByteArray)⟩ : S24), (⟨false, 5, (⟨#[]⟩ : ByteArray)⟩ : S24)⟩ : S33)] : List (S33)) : List (S33))).bind fun y241 => ((Bo.f k y238 2 (⟨#[97]⟩ : ByteArray) 5 false 5 (⟨#[]⟩ : ByteArray) 1 (⟨#[]⟩ : ByteArray) ([] : List (S27)) y241).bind fun bt245 => ((Ch.f bt245.2.2.2).bind fun t250 => (if t250 = 0 then (if (!bt245.1 && (bt245.2.1 && (!bt245.2.2.1))) = true then ((Ci.f k y238 2 (⟨#[97]⟩ : ByteArray) 5 false 5 (⟨#[]⟩ : ByteArray) 1 (⟨#[]⟩ : ByteArray) ([] : List (S27)) y241).bind fun t251 => (some t251)) else (some false)) else (some false))))) = some r := by first | (rw [hy238]; with_reducible exact H) | (have H2_ := (Option.bind_some _ _).symm.trans H; rw [hy238]; with_reducible exact H2_) | (have H2_ := (Option.bind_some _ _).symm.trans H; with_reducible exact H2_) | with_reducible exact H | (rw [hy238]; exact H) | exact H
 have Ny238 := Aa.mk hy238
 clear hy238
 obtain ⟨y241, hy241⟩ : ∃ y_ : List (S33), y_ = (([(⟨2, 0, (⟨false, 1, (⟨#[]⟩ : ByteArray)⟩ : S24), (⟨false, 5, (⟨#[]⟩ : ByteArray)⟩ : S24)⟩ : S33)] : List (S33))) := ⟨_, rfl⟩
 replace H : ((Bo.f k y238 2 (⟨#[97]⟩ : ByteArray) 5 false 5 (⟨#[]⟩ : ByteArray) 1 (⟨#[]⟩ : ByteArray) ([] : List (S27)) y241).bind fun bt245 => ((Ch.f bt245.2.2.2).bind fun t250 => (if t250 = 0 then (if (!bt245.1 && (bt245.2.1 && (!bt245.2.2.1))) = true then ((Ci.f k y238 2 (⟨#[97]⟩ : ByteArray) 5 false 5 (⟨#[]⟩ : ByteArray) 1 (⟨#[]⟩ : ByteArray) ([] : List (S27)) y241).bind fun t251 => (some t251)) else (some false)) else (some false)))) = some r := by first | (rw [hy241]; with_reducible exact H) | (have H2_ := (Option.bind_some _ _).symm.trans H; rw [hy241]; with_reducible exact H2_) | (have H2_ := (Option.bind_some _ _).symm.trans H; with_reducible exact H2_) | with_reducible exact H | (rw [hy241]; exact H) | exact H
 have Ny241 := Aa.mk hy241
 clear hy241
 replace H := Dn H
 obtain ⟨⟨t245, t246, t247, t248⟩, A10, H⟩ := H
 replace H : ((Ch.f t248).bind fun t250 => (if t250 = 0 then (if (!t245 && (t246 && (!t247))) = true then ((Ci.f k y238 2 (⟨#[97]⟩ : ByteArray) 5 false 5 (⟨#[]⟩ : ByteArray) 1 (⟨#[]⟩ : ByteArray) ([] : List (S27)) y241).bind fun t251 => (some t251)) else (some false)) else (some false))) = some r := H
 have A1 := Aa.mk A10
 clear A10
 replace H := Dn H
 obtain ⟨t250, A20, H⟩ := H
 replace H : (if t250 = 0 then (if (!t245 && (t246 && (!t247))) = true then ((Ci.f k y238 2 (⟨#[97]⟩ : ByteArray) 5 false 5 (⟨#[]⟩ : ByteArray) 1 (⟨#[]⟩ : ByteArray) ([] : List (S27)) y241).bind fun t251 => (some t251)) else (some false)) else (some false)) = some r := H
 have A2 := Aa.mk A20
 clear A20
 by_cases c3 : t250 = 0
 ·(
 rw [if_pos c3] at H
 have c3b0 : (t250 == 0) = true := Dl c3
 have c3b1 : (t250 != 0) = false := Dk c3
 clear c3
 by_cases c4 : (!t245 && (t246 && (!t247))) = true
 ·(
 rw [if_pos c4] at H
 have c4b0 : (!t245 && (t246 && (!t247))) = true := c4
 clear c4
 replace H := Dn H
 obtain ⟨t251, A50, H⟩ := H
 replace H : (some t251) = some r := H
 have A5 := Aa.mk A50
 clear A50
 obtain rfl := Dp H
 go_enter Try.func11, Try.ntmps11
 go_wp2_with (first | ((with_reducible refine Cv (N := 7) rfl ?_); refine Kd.R_lit k64 _ 64 ?hg (N := 7) ?hd (xs := ([(⟨(⟨#[97]⟩ : ByteArray), 1, false⟩ : S64)] : List (S64))) (inner := [.string (⟨#[97]⟩ : ByteArray), .int .i64 1, .bool false]) (ok := fun _ => True) (okp := fun _ => True) ?hr ?hp (fun _ hk => hk) trivial (Below.refl _ _) (Nat.le_refl _) (by simp) ?_; (case hd => rfl); (case hg => rfl); (case hr => first | (go_simp; done) | (go_simp; rfl)); (case hp => exact (Reps.c3 (show Kd.M k64 _ _ _ (⟨(⟨#[97]⟩ : ByteArray), 1, false⟩ : S64) [.string (⟨#[97]⟩ : ByteArray), .int .i64 1, .bool false] from (k64_mkM _ _ _ (⟨(⟨#[97]⟩ : ByteArray), 1, false⟩ : S64) )) (Reps.none _ _))); intro v239 w6 ho7 hb hg_ hnew_; clear hg_ hnew_; (first | rw [← Ny238.out] at ho7 | (simp only [Int.reduceToNat] at ho7; rw [← Ny238.out] at ho7)); have HO240 := Aa.mk (Kd.R_lower ho7 (Ca (by repeat (first | (with_reducible first | exact HB.out | apply Ak | apply Ah | apply Aj) | exact HB.out)))); replace HB := bs_ HB hb; clear hb ho7) | ((with_reducible refine Cv (N := 11) rfl ?_); refine Kd.R_lit k33 _ 33 ?hg (N := 11) ?hd (xs := ([(⟨2, 0, (⟨false, 1, (⟨#[]⟩ : ByteArray)⟩ : S24), (⟨false, 5, (⟨#[]⟩ : ByteArray)⟩ : S24)⟩ : S33)] : List (S33))) (inner := [.int .i64 2, .int .i64 0, .bool false, .int .i64 1, .string (⟨#[]⟩ : ByteArray), .bool false, .int .i64 5, .string (⟨#[]⟩ : ByteArray)]) (ok := fun _ => True) (okp := fun _ => True) ?hr ?hp (fun _ hk => hk) trivial (Below.refl _ _) (Nat.le_refl _) (by simp) ?_; (case hd => rfl); (case hg => rfl); (case hr => first | (go_simp; done) | (go_simp; rfl)); (case hp => exact (Reps.c8 (show Kd.M k33 _ _ _ (⟨2, 0, (⟨false, 1, (⟨#[]⟩ : ByteArray)⟩ : S24), (⟨false, 5, (⟨#[]⟩ : ByteArray)⟩ : S24)⟩ : S33) [.int .i64 2, .int .i64 0, .bool false, .int .i64 1, .string (⟨#[]⟩ : ByteArray), .bool false, .int .i64 5, .string (⟨#[]⟩ : ByteArray)] from (k33_mkM _ _ _ (⟨2, 0, (⟨false, 1, (⟨#[]⟩ : ByteArray)⟩ : S24), (⟨false, 5, (⟨#[]⟩ : ByteArray)⟩ : S24)⟩ : S33) )) (Reps.none _ _))); intro v242 w8 ho9 hb hg_ hnew_; clear hg_ hnew_; (first | rw [← Ny241.out] at ho9 | (simp only [Int.reduceToNat] at ho9; rw [← Ny241.out] at ho9)); have n0_ := Aa.mk (Kd.R_below (by (with_reducible repeat (first | apply Kd.R_alloc | apply Kd.R_drewN | apply Kd.R_drew)); exact HO240.out) hb); have n1_ := Aa.mk (Kd.R_lower ho9 (Ca (by repeat (first | (with_reducible first | exact HB.out | apply Ak | apply Ah | apply Aj) | exact HB.out)))); have n2_ := bs_ HB hb; clear HO240; clear HB; have HO240 := n0_; have HO243 := n1_; have HB := n2_; clear n0_ n1_ n2_; clear hb ho9) | (refine bx_ (N := 3) (cs := #[.int .i64 0, .string (⟨#[]⟩ : ByteArray), .int .i64 0, .bool false, .int .i64 0, .string (⟨#[]⟩ : ByteArray), .int .i64 0, .string (⟨#[]⟩ : ByteArray), .slice none 0 0]) (t := 27) ?_; intro gb244 hg w10 hbox hb; have n0_ := Aa.mk (Kd.R_below (by (with_reducible repeat (first | apply Kd.R_alloc | apply Kd.R_drewN | apply Kd.R_drew)); exact HO240.out) hb); have n1_ := Aa.mk (Kd.R_below (by (with_reducible repeat (first | apply Kd.R_alloc | apply Kd.R_drewN | apply Kd.R_drew)); exact HO243.out) hb); have n2_ := bs_ HB hb; have n3_ := Aa.mk (hbox); have n4_ := ge_ HB hg; have n5_ := ge_ HB hg; clear HO240; clear HO243; clear HB; have HO240 := n0_; have HO243 := n1_; have HB := n2_; have BK244 := n3_; have GW244 := n4_; have GE244 := n5_; clear n0_ n1_ n2_ n3_ n4_ n5_; clear hb hbox hg; obtain ⟨C11_0, C11_1, C11_2, C11_3, C11_4, C11_5, C11_6, C11_7, C11_8⟩ := zc9_ BK244.out; obtain ⟨F11_0, F11_1, F11_2, F11_3, F11_4, F11_5, F11_6, F11_7, F11_8⟩ := zf9_ BK244.out; obtain ⟨Ao12, co12, eo12⟩ := Kd.R_slice HO240.out; subst eo12; obtain ⟨Ao13, co13, eo13⟩ := Kd.R_slice HO243.out; subst eo13) | ((with_reducible refine Aw (f := 12) rfl ?_); refine gl_ (some 18) rfl Try.func12 #[.slice Ao12 y238.length co12, .agg #[.int .i64 2, .string (⟨#[97]⟩ : ByteArray), .int .i64 5, .bool false, .int .i64 5, .string (⟨#[]⟩ : ByteArray), .int .i64 1, .string (⟨#[]⟩ : ByteArray), .slice none 0 0], .slice Ao13 y241.length co13] ?_; (refine (Bo.calls k _ _ y238 2 (⟨#[97]⟩ : ByteArray) 5 false 5 (⟨#[]⟩ : ByteArray) 1 (⟨#[]⟩ : ByteArray) _ _ ([] : List (S27)) _ _ y241 t245 t246 t247 t248 _ ?side1 ?side2 ?side3 ?side4 ?side5 ?side6 A1.out).mono ?_); (case side1 => refine (Kd.R_reads' (e := 64) (base := w.heap.size) (ok := fun k_ => True) (n := y238.length) (c := co12) ?_).2.2; exact (by (with_reducible repeat (first | apply Kd.R_alloc | apply Kd.R_drewN | apply Kd.R_drew)); exact (Kd.R_mono (Kd.R_far (p := ⟨gb244, 8, none⟩) (Kd.R_far (p := ⟨gb244, 7, none⟩) (Kd.R_far (p := ⟨gb244, 6, none⟩) (Kd.R_far (p := ⟨gb244, 5, none⟩) (Kd.R_far (p := ⟨gb244, 4, none⟩) (Kd.R_far (p := ⟨gb244, 3, none⟩) (Kd.R_far (p := ⟨gb244, 2, none⟩) (Kd.R_far (p := ⟨gb244, 1, none⟩) (Kd.R_far (p := ⟨gb244, 0, none⟩) (Kd.R_types HO240.out BK244.out (by decide)) (fun _ hk => hk.2) (.int .i64 2)) (fun _ hk => hk.2) (.string (⟨#[97]⟩ : ByteArray))) (fun _ hk => hk.2) (.int .i64 5)) (fun _ hk => hk.2) (.bool false)) (fun _ hk => hk.2) (.int .i64 5)) (fun _ hk => hk.2) (.string (⟨#[]⟩ : ByteArray))) (fun _ hk => hk.2) (.int .i64 1)) (fun _ hk => hk.2) (.string (⟨#[]⟩ : ByteArray))) (fun _ hk => hk.2) (.slice none 0 0)) (fun _ h_ => h_.1)))); (case side2 => exact (Kd.R_reads' HO240.out).2.1); (case side3 => exact Kd.C_nil _ _); (case side4 => exact Nat.le_refl _); (case side5 => refine (Kd.R_reads' (e := 33) (base := w.heap.size) (ok := fun k_ => True) (n := y241.length) (c := co13) ?_).2.2; exact (by (with_reducible repeat (first | apply Kd.R_alloc | apply Kd.R_drewN | apply Kd.R_drew)); exact (Kd.R_mono (Kd.R_far (p := ⟨gb244, 8, none⟩) (Kd.R_far (p := ⟨gb244, 7, none⟩) (Kd.R_far (p := ⟨gb244, 6, none⟩) (Kd.R_far (p := ⟨gb244, 5, none⟩) (Kd.R_far (p := ⟨gb244, 4, none⟩) (Kd.R_far (p := ⟨gb244, 3, none⟩) (Kd.R_far (p := ⟨gb244, 2, none⟩) (Kd.R_far (p := ⟨gb244, 1, none⟩) (Kd.R_far (p := ⟨gb244, 0, none⟩) (Kd.R_types HO243.out BK244.out (by decide)) (fun _ hk => hk.2) (.int .i64 2)) (fun _ hk => hk.2) (.string (⟨#[97]⟩ : ByteArray))) (fun _ hk => hk.2) (.int .i64 5)) (fun _ hk => hk.2) (.bool false)) (fun _ hk => hk.2) (.int .i64 5)) (fun _ hk => hk.2) (.string (⟨#[]⟩ : ByteArray))) (fun _ hk => hk.2) (.int .i64 1)) (fun _ hk => hk.2) (.string (⟨#[]⟩ : ByteArray))) (fun _ hk => hk.2) (.slice none 0 0)) (fun _ h_ => h_.1)))); (case side6 => exact (Kd.R_reads' HO243.out).2.1); rintro e w14 ⟨rfl, hb⟩; refine ⟨_, rfl, ?_⟩; have n0_ := Aa.mk (Kd.R_below (by (with_reducible repeat (first | apply Kd.R_alloc | apply Kd.R_drewN | apply Kd.R_drew)); exact (Kd.R_mono (Kd.R_far (p := ⟨gb244, 8, none⟩) (Kd.R_far (p := ⟨gb244, 7, none⟩) (Kd.R_far (p := ⟨gb244, 6, none⟩) (Kd.R_far (p := ⟨gb244, 5, none⟩) (Kd.R_far (p := ⟨gb244, 4, none⟩) (Kd.R_far (p := ⟨gb244, 3, none⟩) (Kd.R_far (p := ⟨gb244, 2, none⟩) (Kd.R_far (p := ⟨gb244, 1, none⟩) (Kd.R_far (p := ⟨gb244, 0, none⟩) (Kd.R_types HO240.out BK244.out (by decide)) (fun _ hk => hk.2) (.int .i64 2)) (fun _ hk => hk.2) (.string (⟨#[97]⟩ : ByteArray))) (fun _ hk => hk.2) (.int .i64 5)) (fun _ hk => hk.2) (.bool false)) (fun _ hk => hk.2) (.int .i64 5)) (fun _ hk => hk.2) (.string (⟨#[]⟩ : ByteArray))) (fun _ hk => hk.2) (.int .i64 1)) (fun _ hk => hk.2) (.string (⟨#[]⟩ : ByteArray))) (fun _ hk => hk.2) (.slice none 0 0)) (fun _ h_ => h_.1))) hb); have n1_ := Aa.mk (Kd.R_below (by (with_reducible repeat (first | apply Kd.R_alloc | apply Kd.R_drewN | apply Kd.R_drew)); exact (Kd.R_mono (Kd.R_far (p := ⟨gb244, 8, none⟩) (Kd.R_far (p := ⟨gb244, 7, none⟩) (Kd.R_far (p := ⟨gb244, 6, none⟩) (Kd.R_far (p := ⟨gb244, 5, none⟩) (Kd.R_far (p := ⟨gb244, 4, none⟩) (Kd.R_far (p := ⟨gb244, 3, none⟩) (Kd.R_far (p := ⟨gb244, 2, none⟩) (Kd.R_far (p := ⟨gb244, 1, none⟩) (Kd.R_far (p := ⟨gb244, 0, none⟩) (Kd.R_types HO243.out BK244.out (by decide)) (fun _ hk => hk.2) (.int .i64 2)) (fun _ hk => hk.2) (.string (⟨#[97]⟩ : ByteArray))) (fun _ hk => hk.2) (.int .i64 5)) (fun _ hk => hk.2) (.bool false)) (fun _ hk => hk.2) (.int .i64 5)) (fun _ hk => hk.2) (.string (⟨#[]⟩ : ByteArray))) (fun _ hk => hk.2) (.int .i64 1)) (fun _ hk => hk.2) (.string (⟨#[]⟩ : ByteArray))) (fun _ hk => hk.2) (.slice none 0 0)) (fun _ h_ => h_.1))) hb); have n2_ := Aa.mk (Ct (g := gb244) (o := .cells #[.int .i64 2, .string (⟨#[97]⟩ : ByteArray), .int .i64 5, .bool false, .int .i64 5, .string (⟨#[]⟩ : ByteArray), .int .i64 1, .string (⟨#[]⟩ : ByteArray), .slice none 0 0] 27 (0, 0)) (by (with_reducible repeat (first | refine Ag ?_ _ | refine Af ?_ | refine Ae ?_ _)); refine Bs (cs := #[.int .i64 2, .string (⟨#[97]⟩ : ByteArray), .int .i64 5, .bool false, .int .i64 5, .string (⟨#[]⟩ : ByteArray), .int .i64 1, .string (⟨#[]⟩ : ByteArray), .slice none 0 0]) ?_ 8 _ rfl; (with_reducible repeat (first | refine Ag ?_ _ | refine Af ?_ | refine Ae ?_ _)); refine Bs (cs := #[.int .i64 2, .string (⟨#[97]⟩ : ByteArray), .int .i64 5, .bool false, .int .i64 5, .string (⟨#[]⟩ : ByteArray), .int .i64 1, .string (⟨#[]⟩ : ByteArray), .slice none 0 0]) ?_ 7 _ rfl; (with_reducible repeat (first | refine Ag ?_ _ | refine Af ?_ | refine Ae ?_ _)); refine Bs (cs := #[.int .i64 2, .string (⟨#[97]⟩ : ByteArray), .int .i64 5, .bool false, .int .i64 5, .string (⟨#[]⟩ : ByteArray), .int .i64 0, .string (⟨#[]⟩ : ByteArray), .slice none 0 0]) ?_ 6 _ rfl; (with_reducible repeat (first | refine Ag ?_ _ | refine Af ?_ | refine Ae ?_ _)); refine Bs (cs := #[.int .i64 2, .string (⟨#[97]⟩ : ByteArray), .int .i64 5, .bool false, .int .i64 5, .string (⟨#[]⟩ : ByteArray), .int .i64 0, .string (⟨#[]⟩ : ByteArray), .slice none 0 0]) ?_ 5 _ rfl; (with_reducible repeat (first | refine Ag ?_ _ | refine Af ?_ | refine Ae ?_ _)); refine Bs (cs := #[.int .i64 2, .string (⟨#[97]⟩ : ByteArray), .int .i64 5, .bool false, .int .i64 0, .string (⟨#[]⟩ : ByteArray), .int .i64 0, .string (⟨#[]⟩ : ByteArray), .slice none 0 0]) ?_ 4 _ rfl; (with_reducible repeat (first | refine Ag ?_ _ | refine Af ?_ | refine Ae ?_ _)); refine Bs (cs := #[.int .i64 2, .string (⟨#[97]⟩ : ByteArray), .int .i64 5, .bool false, .int .i64 0, .string (⟨#[]⟩ : ByteArray), .int .i64 0, .string (⟨#[]⟩ : ByteArray), .slice none 0 0]) ?_ 3 _ rfl; (with_reducible repeat (first | refine Ag ?_ _ | refine Af ?_ | refine Ae ?_ _)); refine Bs (cs := #[.int .i64 2, .string (⟨#[97]⟩ : ByteArray), .int .i64 0, .bool false, .int .i64 0, .string (⟨#[]⟩ : ByteArray), .int .i64 0, .string (⟨#[]⟩ : ByteArray), .slice none 0 0]) ?_ 2 _ rfl; (with_reducible repeat (first | refine Ag ?_ _ | refine Af ?_ | refine Ae ?_ _)); refine Bs (cs := #[.int .i64 2, .string (⟨#[]⟩ : ByteArray), .int .i64 0, .bool false, .int .i64 0, .string (⟨#[]⟩ : ByteArray), .int .i64 0, .string (⟨#[]⟩ : ByteArray), .slice none 0 0]) ?_ 1 _ rfl; (with_reducible repeat (first | refine Ag ?_ _ | refine Af ?_ | refine Ae ?_ _)); refine Bs (cs := #[.int .i64 0, .string (⟨#[]⟩ : ByteArray), .int .i64 0, .bool false, .int .i64 0, .string (⟨#[]⟩ : ByteArray), .int .i64 0, .string (⟨#[]⟩ : ByteArray), .slice none 0 0]) ?_ 0 _ rfl; (with_reducible repeat (first | refine Ag ?_ _ | refine Af ?_ | refine Ae ?_ _)); exact BK244.out) hb); have n3_ := bs_ HB hb; clear HO240; clear HO243; clear BK244; clear HB; have HO240 := n0_; have HO243 := n1_; have BK244 := n2_; have HB := n3_; clear n0_ n1_ n2_ n3_; (try clear hb); (try clear hb2); (try clear hk); (try clear hi)) | (refine bx_ (N := 4) (cs := #[.bool false, .bool false, .bool false]) (t := 35) ?_; intro gb249 hg w15 hbox hb; have n0_ := Aa.mk (Kd.R_below (by (with_reducible repeat (first | apply Kd.R_alloc | apply Kd.R_drewN | apply Kd.R_drew)); exact HO240.out) hb); have n1_ := Aa.mk (Kd.R_below (by (with_reducible repeat (first | apply Kd.R_alloc | apply Kd.R_drewN | apply Kd.R_drew)); exact HO243.out) hb); have n2_ := bk_ BK244 hb; have n3_ := bs_ HB hb; have n4_ := Aa.mk (hbox); have n5_ := ge_ HB hg; have n6_ := ge_ HB hg; have n7_ := lt_ BK244 hg; have n8_ := gt_ BK244 hg; clear HO240; clear HO243; clear BK244; clear HB; have HO240 := n0_; have HO243 := n1_; have BK244 := n2_; have HB := n3_; have BK249 := n4_; have GW249 := n5_; have GE249 := n6_; have NB244_249 := n7_; have NB249_244 := n8_; clear n0_ n1_ n2_ n3_ n4_ n5_ n6_ n7_ n8_; clear hb hbox hg; have hnb16 := NB249_244.out; have hnc16 := NB244_249.out; obtain ⟨C17_0, C17_1, C17_2⟩ := zc3_ BK249.out; obtain ⟨F17_0, F17_1, F17_2⟩ := zf3_ BK249.out) | ((with_reducible refine Aw (f := 14) rfl ?_); refine gl_ (some 22) rfl Try.func14 #[.int .i64 t248] ?_; (with_reducible refine (Ch.calls t248 t250 _ A2.out).mono ?_); rintro e w' ⟨rfl, ⟨nd, rfl⟩⟩; refine ⟨_, rfl, ?_⟩; obtain ⟨C18_0, C18_1, C18_2, C18_3, C18_4, C18_5, C18_6, C18_7, C18_8⟩ := zc9_ BK244.out; obtain ⟨F18_0, F18_1, F18_2, F18_3, F18_4, F18_5, F18_6, F18_7, F18_8⟩ := zf9_ BK244.out) | (go_at_call 15; (refine (Ci.calls k _ _ y238 2 (⟨#[97]⟩ : ByteArray) 5 false 5 (⟨#[]⟩ : ByteArray) 1 (⟨#[]⟩ : ByteArray) _ _ ([] : List (S27)) _ _ y241 t251 _ ?side1 ?side2 ?side3 ?side4 ?side5 ?side6 A5.out).mono ?_); (case side1 => refine (Kd.R_reads' (e := 64) (base := w.heap.size) (ok := fun k_ => True) (n := y238.length) (c := co12) ?_).2.2; exact (by (with_reducible repeat (first | apply Kd.R_alloc | apply Kd.R_drewN | apply Kd.R_drew)); exact (Kd.R_mono (Kd.R_far (p := ⟨gb249, 2, none⟩) (Kd.R_far (p := ⟨gb249, 1, none⟩) (Kd.R_far (p := ⟨gb249, 0, none⟩) (Kd.R_types HO240.out BK249.out (by decide)) (fun _ hk => hk.2) (.bool t245)) (fun _ hk => hk.2) (.bool t246)) (fun _ hk => hk.2) (.bool t247)) (fun _ h_ => h_.1)))); (case side2 => exact (Kd.R_reads' HO240.out).2.1); (case side3 => exact Kd.C_nil _ _); (case side4 => exact Nat.le_refl _); (case side5 => refine (Kd.R_reads' (e := 33) (base := w.heap.size) (ok := fun k_ => True) (n := y241.length) (c := co13) ?_).2.2; exact (by (with_reducible repeat (first | apply Kd.R_alloc | apply Kd.R_drewN | apply Kd.R_drew)); exact (Kd.R_mono (Kd.R_far (p := ⟨gb249, 2, none⟩) (Kd.R_far (p := ⟨gb249, 1, none⟩) (Kd.R_far (p := ⟨gb249, 0, none⟩) (Kd.R_types HO243.out BK249.out (by decide)) (fun _ hk => hk.2) (.bool t245)) (fun _ hk => hk.2) (.bool t246)) (fun _ hk => hk.2) (.bool t247)) (fun _ h_ => h_.1)))); (case side6 => exact (Kd.R_reads' HO243.out).2.1); rintro e w19 ⟨rfl, hb⟩; have n0_ := Aa.mk (Kd.R_below (by (with_reducible repeat (first | apply Kd.R_alloc | apply Kd.R_drewN | apply Kd.R_drew)); exact (Kd.R_mono (Kd.R_far (p := ⟨gb249, 2, none⟩) (Kd.R_far (p := ⟨gb249, 1, none⟩) (Kd.R_far (p := ⟨gb249, 0, none⟩) (Kd.R_types HO240.out BK249.out (by decide)) (fun _ hk => hk.2) (.bool t245)) (fun _ hk => hk.2) (.bool t246)) (fun _ hk => hk.2) (.bool t247)) (fun _ h_ => h_.1))) hb); have n1_ := Aa.mk (Kd.R_below (by (with_reducible repeat (first | apply Kd.R_alloc | apply Kd.R_drewN | apply Kd.R_drew)); exact (Kd.R_mono (Kd.R_far (p := ⟨gb249, 2, none⟩) (Kd.R_far (p := ⟨gb249, 1, none⟩) (Kd.R_far (p := ⟨gb249, 0, none⟩) (Kd.R_types HO243.out BK249.out (by decide)) (fun _ hk => hk.2) (.bool t245)) (fun _ hk => hk.2) (.bool t246)) (fun _ hk => hk.2) (.bool t247)) (fun _ h_ => h_.1))) hb); have n2_ := Aa.mk (Ct (g := gb244) (o := .cells #[.int .i64 2, .string (⟨#[97]⟩ : ByteArray), .int .i64 5, .bool false, .int .i64 5, .string (⟨#[]⟩ : ByteArray), .int .i64 1, .string (⟨#[]⟩ : ByteArray), .slice none 0 0] 27 (0, 0)) (by (iterate 3 ((with_reducible repeat (first | refine Ag ?_ _ | refine Af ?_ | refine Ae ?_ _)); refine Bv ?_ NB244_249.out _)); (with_reducible repeat (first | refine Ag ?_ _ | refine Af ?_ | refine Ae ?_ _)); exact BK244.out) hb); have n3_ := Aa.mk (Ct (g := gb249) (o := .cells #[.bool t245, .bool t246, .bool t247] 35 (0, 0)) (by (with_reducible repeat (first | refine Ag ?_ _ | refine Af ?_ | refine Ae ?_ _)); apply Cf; (with_reducible repeat (first | refine Ag ?_ _ | refine Af ?_ | refine Ae ?_ _)); exact BK249.out) hb); have n4_ := bs_ HB hb; clear HO240; clear HO243; clear BK244; clear BK249; clear HB; have HO240 := n0_; have HO243 := n1_; have BK244 := n2_; have BK249 := n3_; have HB := n4_; clear n0_ n1_ n2_ n3_ n4_; (try clear hb); (try clear hb2); (try clear hk); (try clear hi)))
 go_ret
 exact en_ HB)
 ·(
 rw [if_neg c4] at H
 have c4b0 : (!t245 && (t246 && (!t247))) = false := by simpa using c4
 clear c4
 obtain rfl := Dp H
 go_enter Try.func11, Try.ntmps11
 go_wp2_with (first | ((with_reducible refine Cv (N := 7) rfl ?_); refine Kd.R_lit k64 _ 64 ?hg (N := 7) ?hd (xs := ([(⟨(⟨#[97]⟩ : ByteArray), 1, false⟩ : S64)] : List (S64))) (inner := [.string (⟨#[97]⟩ : ByteArray), .int .i64 1, .bool false]) (ok := fun _ => True) (okp := fun _ => True) ?hr ?hp (fun _ hk => hk) trivial (Below.refl _ _) (Nat.le_refl _) (by simp) ?_; (case hd => rfl); (case hg => rfl); (case hr => first | (go_simp; done) | (go_simp; rfl)); (case hp => exact (Reps.c3 (show Kd.M k64 _ _ _ (⟨(⟨#[97]⟩ : ByteArray), 1, false⟩ : S64) [.string (⟨#[97]⟩ : ByteArray), .int .i64 1, .bool false] from (k64_mkM _ _ _ (⟨(⟨#[97]⟩ : ByteArray), 1, false⟩ : S64) )) (Reps.none _ _))); intro v239 w20 ho21 hb hg_ hnew_; clear hg_ hnew_; (first | rw [← Ny238.out] at ho21 | (simp only [Int.reduceToNat] at ho21; rw [← Ny238.out] at ho21)); have HO240 := Aa.mk (Kd.R_lower ho21 (Ca (by repeat (first | (with_reducible first | exact HB.out | apply Ak | apply Ah | apply Aj) | exact HB.out)))); replace HB := bs_ HB hb; clear hb ho21) | ((with_reducible refine Cv (N := 11) rfl ?_); refine Kd.R_lit k33 _ 33 ?hg (N := 11) ?hd (xs := ([(⟨2, 0, (⟨false, 1, (⟨#[]⟩ : ByteArray)⟩ : S24), (⟨false, 5, (⟨#[]⟩ : ByteArray)⟩ : S24)⟩ : S33)] : List (S33))) (inner := [.int .i64 2, .int .i64 0, .bool false, .int .i64 1, .string (⟨#[]⟩ : ByteArray), .bool false, .int .i64 5, .string (⟨#[]⟩ : ByteArray)]) (ok := fun _ => True) (okp := fun _ => True) ?hr ?hp (fun _ hk => hk) trivial (Below.refl _ _) (Nat.le_refl _) (by simp) ?_; (case hd => rfl); (case hg => rfl); (case hr => first | (go_simp; done) | (go_simp; rfl)); (case hp => exact (Reps.c8 (show Kd.M k33 _ _ _ (⟨2, 0, (⟨false, 1, (⟨#[]⟩ : ByteArray)⟩ : S24), (⟨false, 5, (⟨#[]⟩ : ByteArray)⟩ : S24)⟩ : S33) [.int .i64 2, .int .i64 0, .bool false, .int .i64 1, .string (⟨#[]⟩ : ByteArray), .bool false, .int .i64 5, .string (⟨#[]⟩ : ByteArray)] from (k33_mkM _ _ _ (⟨2, 0, (⟨false, 1, (⟨#[]⟩ : ByteArray)⟩ : S24), (⟨false, 5, (⟨#[]⟩ : ByteArray)⟩ : S24)⟩ : S33) )) (Reps.none _ _))); intro v242 w22 ho23 hb hg_ hnew_; clear hg_ hnew_; (first | rw [← Ny241.out] at ho23 | (simp only [Int.reduceToNat] at ho23; rw [← Ny241.out] at ho23)); have n0_ := Aa.mk (Kd.R_below (by (with_reducible repeat (first | apply Kd.R_alloc | apply Kd.R_drewN | apply Kd.R_drew)); exact HO240.out) hb); have n1_ := Aa.mk (Kd.R_lower ho23 (Ca (by repeat (first | (with_reducible first | exact HB.out | apply Ak | apply Ah | apply Aj) | exact HB.out)))); have n2_ := bs_ HB hb; clear HO240; clear HB; have HO240 := n0_; have HO243 := n1_; have HB := n2_; clear n0_ n1_ n2_; clear hb ho23) | (refine bx_ (N := 3) (cs := #[.int .i64 0, .string (⟨#[]⟩ : ByteArray), .int .i64 0, .bool false, .int .i64 0, .string (⟨#[]⟩ : ByteArray), .int .i64 0, .string (⟨#[]⟩ : ByteArray), .slice none 0 0]) (t := 27) ?_; intro gb244 hg w24 hbox hb; have n0_ := Aa.mk (Kd.R_below (by (with_reducible repeat (first | apply Kd.R_alloc | apply Kd.R_drewN | apply Kd.R_drew)); exact HO240.out) hb); have n1_ := Aa.mk (Kd.R_below (by (with_reducible repeat (first | apply Kd.R_alloc | apply Kd.R_drewN | apply Kd.R_drew)); exact HO243.out) hb); have n2_ := bs_ HB hb; have n3_ := Aa.mk (hbox); have n4_ := ge_ HB hg; have n5_ := ge_ HB hg; clear HO240; clear HO243; clear HB; have HO240 := n0_; have HO243 := n1_; have HB := n2_; have BK244 := n3_; have GW244 := n4_; have GE244 := n5_; clear n0_ n1_ n2_ n3_ n4_ n5_; clear hb hbox hg; obtain ⟨C25_0, C25_1, C25_2, C25_3, C25_4, C25_5, C25_6, C25_7, C25_8⟩ := zc9_ BK244.out; obtain ⟨F25_0, F25_1, F25_2, F25_3, F25_4, F25_5, F25_6, F25_7, F25_8⟩ := zf9_ BK244.out; obtain ⟨Ao26, co26, eo26⟩ := Kd.R_slice HO240.out; subst eo26; obtain ⟨Ao27, co27, eo27⟩ := Kd.R_slice HO243.out; subst eo27) | ((with_reducible refine Aw (f := 12) rfl ?_); refine gl_ (some 18) rfl Try.func12 #[.slice Ao26 y238.length co26, .agg #[.int .i64 2, .string (⟨#[97]⟩ : ByteArray), .int .i64 5, .bool false, .int .i64 5, .string (⟨#[]⟩ : ByteArray), .int .i64 1, .string (⟨#[]⟩ : ByteArray), .slice none 0 0], .slice Ao27 y241.length co27] ?_; (refine (Bo.calls k _ _ y238 2 (⟨#[97]⟩ : ByteArray) 5 false 5 (⟨#[]⟩ : ByteArray) 1 (⟨#[]⟩ : ByteArray) _ _ ([] : List (S27)) _ _ y241 t245 t246 t247 t248 _ ?side1 ?side2 ?side3 ?side4 ?side5 ?side6 A1.out).mono ?_); (case side1 => refine (Kd.R_reads' (e := 64) (base := w.heap.size) (ok := fun k_ => True) (n := y238.length) (c := co26) ?_).2.2; exact (by (with_reducible repeat (first | apply Kd.R_alloc | apply Kd.R_drewN | apply Kd.R_drew)); exact (Kd.R_mono (Kd.R_far (p := ⟨gb244, 8, none⟩) (Kd.R_far (p := ⟨gb244, 7, none⟩) (Kd.R_far (p := ⟨gb244, 6, none⟩) (Kd.R_far (p := ⟨gb244, 5, none⟩) (Kd.R_far (p := ⟨gb244, 4, none⟩) (Kd.R_far (p := ⟨gb244, 3, none⟩) (Kd.R_far (p := ⟨gb244, 2, none⟩) (Kd.R_far (p := ⟨gb244, 1, none⟩) (Kd.R_far (p := ⟨gb244, 0, none⟩) (Kd.R_types HO240.out BK244.out (by decide)) (fun _ hk => hk.2) (.int .i64 2)) (fun _ hk => hk.2) (.string (⟨#[97]⟩ : ByteArray))) (fun _ hk => hk.2) (.int .i64 5)) (fun _ hk => hk.2) (.bool false)) (fun _ hk => hk.2) (.int .i64 5)) (fun _ hk => hk.2) (.string (⟨#[]⟩ : ByteArray))) (fun _ hk => hk.2) (.int .i64 1)) (fun _ hk => hk.2) (.string (⟨#[]⟩ : ByteArray))) (fun _ hk => hk.2) (.slice none 0 0)) (fun _ h_ => h_.1)))); (case side2 => exact (Kd.R_reads' HO240.out).2.1); (case side3 => exact Kd.C_nil _ _); (case side4 => exact Nat.le_refl _); (case side5 => refine (Kd.R_reads' (e := 33) (base := w.heap.size) (ok := fun k_ => True) (n := y241.length) (c := co27) ?_).2.2; exact (by (with_reducible repeat (first | apply Kd.R_alloc | apply Kd.R_drewN | apply Kd.R_drew)); exact (Kd.R_mono (Kd.R_far (p := ⟨gb244, 8, none⟩) (Kd.R_far (p := ⟨gb244, 7, none⟩) (Kd.R_far (p := ⟨gb244, 6, none⟩) (Kd.R_far (p := ⟨gb244, 5, none⟩) (Kd.R_far (p := ⟨gb244, 4, none⟩) (Kd.R_far (p := ⟨gb244, 3, none⟩) (Kd.R_far (p := ⟨gb244, 2, none⟩) (Kd.R_far (p := ⟨gb244, 1, none⟩) (Kd.R_far (p := ⟨gb244, 0, none⟩) (Kd.R_types HO243.out BK244.out (by decide)) (fun _ hk => hk.2) (.int .i64 2)) (fun _ hk => hk.2) (.string (⟨#[97]⟩ : ByteArray))) (fun _ hk => hk.2) (.int .i64 5)) (fun _ hk => hk.2) (.bool false)) (fun _ hk => hk.2) (.int .i64 5)) (fun _ hk => hk.2) (.string (⟨#[]⟩ : ByteArray))) (fun _ hk => hk.2) (.int .i64 1)) (fun _ hk => hk.2) (.string (⟨#[]⟩ : ByteArray))) (fun _ hk => hk.2) (.slice none 0 0)) (fun _ h_ => h_.1)))); (case side6 => exact (Kd.R_reads' HO243.out).2.1); rintro e w28 ⟨rfl, hb⟩; refine ⟨_, rfl, ?_⟩; have n0_ := Aa.mk (Kd.R_below (by (with_reducible repeat (first | apply Kd.R_alloc | apply Kd.R_drewN | apply Kd.R_drew)); exact (Kd.R_mono (Kd.R_far (p := ⟨gb244, 8, none⟩) (Kd.R_far (p := ⟨gb244, 7, none⟩) (Kd.R_far (p := ⟨gb244, 6, none⟩) (Kd.R_far (p := ⟨gb244, 5, none⟩) (Kd.R_far (p := ⟨gb244, 4, none⟩) (Kd.R_far (p := ⟨gb244, 3, none⟩) (Kd.R_far (p := ⟨gb244, 2, none⟩) (Kd.R_far (p := ⟨gb244, 1, none⟩) (Kd.R_far (p := ⟨gb244, 0, none⟩) (Kd.R_types HO240.out BK244.out (by decide)) (fun _ hk => hk.2) (.int .i64 2)) (fun _ hk => hk.2) (.string (⟨#[97]⟩ : ByteArray))) (fun _ hk => hk.2) (.int .i64 5)) (fun _ hk => hk.2) (.bool false)) (fun _ hk => hk.2) (.int .i64 5)) (fun _ hk => hk.2) (.string (⟨#[]⟩ : ByteArray))) (fun _ hk => hk.2) (.int .i64 1)) (fun _ hk => hk.2) (.string (⟨#[]⟩ : ByteArray))) (fun _ hk => hk.2) (.slice none 0 0)) (fun _ h_ => h_.1))) hb); have n1_ := Aa.mk (Kd.R_below (by (with_reducible repeat (first | apply Kd.R_alloc | apply Kd.R_drewN | apply Kd.R_drew)); exact (Kd.R_mono (Kd.R_far (p := ⟨gb244, 8, none⟩) (Kd.R_far (p := ⟨gb244, 7, none⟩) (Kd.R_far (p := ⟨gb244, 6, none⟩) (Kd.R_far (p := ⟨gb244, 5, none⟩) (Kd.R_far (p := ⟨gb244, 4, none⟩) (Kd.R_far (p := ⟨gb244, 3, none⟩) (Kd.R_far (p := ⟨gb244, 2, none⟩) (Kd.R_far (p := ⟨gb244, 1, none⟩) (Kd.R_far (p := ⟨gb244, 0, none⟩) (Kd.R_types HO243.out BK244.out (by decide)) (fun _ hk => hk.2) (.int .i64 2)) (fun _ hk => hk.2) (.string (⟨#[97]⟩ : ByteArray))) (fun _ hk => hk.2) (.int .i64 5)) (fun _ hk => hk.2) (.bool false)) (fun _ hk => hk.2) (.int .i64 5)) (fun _ hk => hk.2) (.string (⟨#[]⟩ : ByteArray))) (fun _ hk => hk.2) (.int .i64 1)) (fun _ hk => hk.2) (.string (⟨#[]⟩ : ByteArray))) (fun _ hk => hk.2) (.slice none 0 0)) (fun _ h_ => h_.1))) hb); have n2_ := Aa.mk (Ct (g := gb244) (o := .cells #[.int .i64 2, .string (⟨#[97]⟩ : ByteArray), .int .i64 5, .bool false, .int .i64 5, .string (⟨#[]⟩ : ByteArray), .int .i64 1, .string (⟨#[]⟩ : ByteArray), .slice none 0 0] 27 (0, 0)) (by (with_reducible repeat (first | refine Ag ?_ _ | refine Af ?_ | refine Ae ?_ _)); refine Bs (cs := #[.int .i64 2, .string (⟨#[97]⟩ : ByteArray), .int .i64 5, .bool false, .int .i64 5, .string (⟨#[]⟩ : ByteArray), .int .i64 1, .string (⟨#[]⟩ : ByteArray), .slice none 0 0]) ?_ 8 _ rfl; (with_reducible repeat (first | refine Ag ?_ _ | refine Af ?_ | refine Ae ?_ _)); refine Bs (cs := #[.int .i64 2, .string (⟨#[97]⟩ : ByteArray), .int .i64 5, .bool false, .int .i64 5, .string (⟨#[]⟩ : ByteArray), .int .i64 1, .string (⟨#[]⟩ : ByteArray), .slice none 0 0]) ?_ 7 _ rfl; (with_reducible repeat (first | refine Ag ?_ _ | refine Af ?_ | refine Ae ?_ _)); refine Bs (cs := #[.int .i64 2, .string (⟨#[97]⟩ : ByteArray), .int .i64 5, .bool false, .int .i64 5, .string (⟨#[]⟩ : ByteArray), .int .i64 0, .string (⟨#[]⟩ : ByteArray), .slice none 0 0]) ?_ 6 _ rfl; (with_reducible repeat (first | refine Ag ?_ _ | refine Af ?_ | refine Ae ?_ _)); refine Bs (cs := #[.int .i64 2, .string (⟨#[97]⟩ : ByteArray), .int .i64 5, .bool false, .int .i64 5, .string (⟨#[]⟩ : ByteArray), .int .i64 0, .string (⟨#[]⟩ : ByteArray), .slice none 0 0]) ?_ 5 _ rfl; (with_reducible repeat (first | refine Ag ?_ _ | refine Af ?_ | refine Ae ?_ _)); refine Bs (cs := #[.int .i64 2, .string (⟨#[97]⟩ : ByteArray), .int .i64 5, .bool false, .int .i64 0, .string (⟨#[]⟩ : ByteArray), .int .i64 0, .string (⟨#[]⟩ : ByteArray), .slice none 0 0]) ?_ 4 _ rfl; (with_reducible repeat (first | refine Ag ?_ _ | refine Af ?_ | refine Ae ?_ _)); refine Bs (cs := #[.int .i64 2, .string (⟨#[97]⟩ : ByteArray), .int .i64 5, .bool false, .int .i64 0, .string (⟨#[]⟩ : ByteArray), .int .i64 0, .string (⟨#[]⟩ : ByteArray), .slice none 0 0]) ?_ 3 _ rfl; (with_reducible repeat (first | refine Ag ?_ _ | refine Af ?_ | refine Ae ?_ _)); refine Bs (cs := #[.int .i64 2, .string (⟨#[97]⟩ : ByteArray), .int .i64 0, .bool false, .int .i64 0, .string (⟨#[]⟩ : ByteArray), .int .i64 0, .string (⟨#[]⟩ : ByteArray), .slice none 0 0]) ?_ 2 _ rfl; (with_reducible repeat (first | refine Ag ?_ _ | refine Af ?_ | refine Ae ?_ _)); refine Bs (cs := #[.int .i64 2, .string (⟨#[]⟩ : ByteArray), .int .i64 0, .bool false, .int .i64 0, .string (⟨#[]⟩ : ByteArray), .int .i64 0, .string (⟨#[]⟩ : ByteArray), .slice none 0 0]) ?_ 1 _ rfl; (with_reducible repeat (first | refine Ag ?_ _ | refine Af ?_ | refine Ae ?_ _)); refine Bs (cs := #[.int .i64 0, .string (⟨#[]⟩ : ByteArray), .int .i64 0, .bool false, .int .i64 0, .string (⟨#[]⟩ : ByteArray), .int .i64 0, .string (⟨#[]⟩ : ByteArray), .slice none 0 0]) ?_ 0 _ rfl; (with_reducible repeat (first | refine Ag ?_ _ | refine Af ?_ | refine Ae ?_ _)); exact BK244.out) hb); have n3_ := bs_ HB hb; clear HO240; clear HO243; clear BK244; clear HB; have HO240 := n0_; have HO243 := n1_; have BK244 := n2_; have HB := n3_; clear n0_ n1_ n2_ n3_; (try clear hb); (try clear hb2); (try clear hk); (try clear hi)) | (refine bx_ (N := 4) (cs := #[.bool false, .bool false, .bool false]) (t := 35) ?_; intro gb249 hg w29 hbox hb; have n0_ := Aa.mk (Kd.R_below (by (with_reducible repeat (first | apply Kd.R_alloc | apply Kd.R_drewN | apply Kd.R_drew)); exact HO240.out) hb); have n1_ := Aa.mk (Kd.R_below (by (with_reducible repeat (first | apply Kd.R_alloc | apply Kd.R_drewN | apply Kd.R_drew)); exact HO243.out) hb); have n2_ := bk_ BK244 hb; have n3_ := bs_ HB hb; have n4_ := Aa.mk (hbox); have n5_ := ge_ HB hg; have n6_ := ge_ HB hg; have n7_ := lt_ BK244 hg; have n8_ := gt_ BK244 hg; clear HO240; clear HO243; clear BK244; clear HB; have HO240 := n0_; have HO243 := n1_; have BK244 := n2_; have HB := n3_; have BK249 := n4_; have GW249 := n5_; have GE249 := n6_; have NB244_249 := n7_; have NB249_244 := n8_; clear n0_ n1_ n2_ n3_ n4_ n5_ n6_ n7_ n8_; clear hb hbox hg; have hnb30 := NB249_244.out; have hnc30 := NB244_249.out; obtain ⟨C31_0, C31_1, C31_2⟩ := zc3_ BK249.out; obtain ⟨F31_0, F31_1, F31_2⟩ := zf3_ BK249.out) | ((with_reducible refine Aw (f := 14) rfl ?_); refine gl_ (some 22) rfl Try.func14 #[.int .i64 t248] ?_; (with_reducible refine (Ch.calls t248 t250 _ A2.out).mono ?_); rintro e w' ⟨rfl, ⟨nd, rfl⟩⟩; refine ⟨_, rfl, ?_⟩))
 go_ret
 exact en_ HB))
 ·(
 rw [if_neg c3] at H
 have c3b0 : (t250 == 0) = false := Dj c3
 have c3b1 : (t250 != 0) = true := Dm c3
 obtain rfl := Dp H
 go_enter Try.func11, Try.ntmps11
 go_wp2_with (first | ((with_reducible refine Cv (N := 7) rfl ?_); refine Kd.R_lit k64 _ 64 ?hg (N := 7) ?hd (xs := ([(⟨(⟨#[97]⟩ : ByteArray), 1, false⟩ : S64)] : List (S64))) (inner := [.string (⟨#[97]⟩ : ByteArray), .int .i64 1, .bool false]) (ok := fun _ => True) (okp := fun _ => True) ?hr ?hp (fun _ hk => hk) trivial (Below.refl _ _) (Nat.le_refl _) (by simp) ?_; (case hd => rfl); (case hg => rfl); (case hr => first | (go_simp; done) | (go_simp; rfl)); (case hp => exact (Reps.c3 (show Kd.M k64 _ _ _ (⟨(⟨#[97]⟩ : ByteArray), 1, false⟩ : S64) [.string (⟨#[97]⟩ : ByteArray), .int .i64 1, .bool false] from (k64_mkM _ _ _ (⟨(⟨#[97]⟩ : ByteArray), 1, false⟩ : S64) )) (Reps.none _ _))); intro v239 w32 ho33 hb hg_ hnew_; clear hg_ hnew_; (first | rw [← Ny238.out] at ho33 | (simp only [Int.reduceToNat] at ho33; rw [← Ny238.out] at ho33)); have HO240 := Aa.mk (Kd.R_lower ho33 (Ca (by repeat (first | (with_reducible first | exact HB.out | apply Ak | apply Ah | apply Aj) | exact HB.out)))); replace HB := bs_ HB hb; clear hb ho33) | ((with_reducible refine Cv (N := 11) rfl ?_); refine Kd.R_lit k33 _ 33 ?hg (N := 11) ?hd (xs := ([(⟨2, 0, (⟨false, 1, (⟨#[]⟩ : ByteArray)⟩ : S24), (⟨false, 5, (⟨#[]⟩ : ByteArray)⟩ : S24)⟩ : S33)] : List (S33))) (inner := [.int .i64 2, .int .i64 0, .bool false, .int .i64 1, .string (⟨#[]⟩ : ByteArray), .bool false, .int .i64 5, .string (⟨#[]⟩ : ByteArray)]) (ok := fun _ => True) (okp := fun _ => True) ?hr ?hp (fun _ hk => hk) trivial (Below.refl _ _) (Nat.le_refl _) (by simp) ?_; (case hd => rfl); (case hg => rfl); (case hr => first | (go_simp; done) | (go_simp; rfl)); (case hp => exact (Reps.c8 (show Kd.M k33 _ _ _ (⟨2, 0, (⟨false, 1, (⟨#[]⟩ : ByteArray)⟩ : S24), (⟨false, 5, (⟨#[]⟩ : ByteArray)⟩ : S24)⟩ : S33) [.int .i64 2, .int .i64 0, .bool false, .int .i64 1, .string (⟨#[]⟩ : ByteArray), .bool false, .int .i64 5, .string (⟨#[]⟩ : ByteArray)] from (k33_mkM _ _ _ (⟨2, 0, (⟨false, 1, (⟨#[]⟩ : ByteArray)⟩ : S24), (⟨false, 5, (⟨#[]⟩ : ByteArray)⟩ : S24)⟩ : S33) )) (Reps.none _ _))); intro v242 w34 ho35 hb hg_ hnew_; clear hg_ hnew_; (first | rw [← Ny241.out] at ho35 | (simp only [Int.reduceToNat] at ho35; rw [← Ny241.out] at ho35)); have n0_ := Aa.mk (Kd.R_below (by (with_reducible repeat (first | apply Kd.R_alloc | apply Kd.R_drewN | apply Kd.R_drew)); exact HO240.out) hb); have n1_ := Aa.mk (Kd.R_lower ho35 (Ca (by repeat (first | (with_reducible first | exact HB.out | apply Ak | apply Ah | apply Aj) | exact HB.out)))); have n2_ := bs_ HB hb; clear HO240; clear HB; have HO240 := n0_; have HO243 := n1_; have HB := n2_; clear n0_ n1_ n2_; clear hb ho35) | (refine bx_ (N := 3) (cs := #[.int .i64 0, .string (⟨#[]⟩ : ByteArray), .int .i64 0, .bool false, .int .i64 0, .string (⟨#[]⟩ : ByteArray), .int .i64 0, .string (⟨#[]⟩ : ByteArray), .slice none 0 0]) (t := 27) ?_; intro gb244 hg w36 hbox hb; have n0_ := Aa.mk (Kd.R_below (by (with_reducible repeat (first | apply Kd.R_alloc | apply Kd.R_drewN | apply Kd.R_drew)); exact HO240.out) hb); have n1_ := Aa.mk (Kd.R_below (by (with_reducible repeat (first | apply Kd.R_alloc | apply Kd.R_drewN | apply Kd.R_drew)); exact HO243.out) hb); have n2_ := bs_ HB hb; have n3_ := Aa.mk (hbox); have n4_ := ge_ HB hg; have n5_ := ge_ HB hg; clear HO240; clear HO243; clear HB; have HO240 := n0_; have HO243 := n1_; have HB := n2_; have BK244 := n3_; have GW244 := n4_; have GE244 := n5_; clear n0_ n1_ n2_ n3_ n4_ n5_; clear hb hbox hg; obtain ⟨C37_0, C37_1, C37_2, C37_3, C37_4, C37_5, C37_6, C37_7, C37_8⟩ := zc9_ BK244.out; obtain ⟨F37_0, F37_1, F37_2, F37_3, F37_4, F37_5, F37_6, F37_7, F37_8⟩ := zf9_ BK244.out; obtain ⟨Ao38, co38, eo38⟩ := Kd.R_slice HO240.out; subst eo38; obtain ⟨Ao39, co39, eo39⟩ := Kd.R_slice HO243.out; subst eo39) | ((with_reducible refine Aw (f := 12) rfl ?_); refine gl_ (some 18) rfl Try.func12 #[.slice Ao38 y238.length co38, .agg #[.int .i64 2, .string (⟨#[97]⟩ : ByteArray), .int .i64 5, .bool false, .int .i64 5, .string (⟨#[]⟩ : ByteArray), .int .i64 1, .string (⟨#[]⟩ : ByteArray), .slice none 0 0], .slice Ao39 y241.length co39] ?_; (refine (Bo.calls k _ _ y238 2 (⟨#[97]⟩ : ByteArray) 5 false 5 (⟨#[]⟩ : ByteArray) 1 (⟨#[]⟩ : ByteArray) _ _ ([] : List (S27)) _ _ y241 t245 t246 t247 t248 _ ?side1 ?side2 ?side3 ?side4 ?side5 ?side6 A1.out).mono ?_); (case side1 => refine (Kd.R_reads' (e := 64) (base := w.heap.size) (ok := fun k_ => True) (n := y238.length) (c := co38) ?_).2.2; exact (by (with_reducible repeat (first | apply Kd.R_alloc | apply Kd.R_drewN | apply Kd.R_drew)); exact (Kd.R_mono (Kd.R_far (p := ⟨gb244, 8, none⟩) (Kd.R_far (p := ⟨gb244, 7, none⟩) (Kd.R_far (p := ⟨gb244, 6, none⟩) (Kd.R_far (p := ⟨gb244, 5, none⟩) (Kd.R_far (p := ⟨gb244, 4, none⟩) (Kd.R_far (p := ⟨gb244, 3, none⟩) (Kd.R_far (p := ⟨gb244, 2, none⟩) (Kd.R_far (p := ⟨gb244, 1, none⟩) (Kd.R_far (p := ⟨gb244, 0, none⟩) (Kd.R_types HO240.out BK244.out (by decide)) (fun _ hk => hk.2) (.int .i64 2)) (fun _ hk => hk.2) (.string (⟨#[97]⟩ : ByteArray))) (fun _ hk => hk.2) (.int .i64 5)) (fun _ hk => hk.2) (.bool false)) (fun _ hk => hk.2) (.int .i64 5)) (fun _ hk => hk.2) (.string (⟨#[]⟩ : ByteArray))) (fun _ hk => hk.2) (.int .i64 1)) (fun _ hk => hk.2) (.string (⟨#[]⟩ : ByteArray))) (fun _ hk => hk.2) (.slice none 0 0)) (fun _ h_ => h_.1)))); (case side2 => exact (Kd.R_reads' HO240.out).2.1); (case side3 => exact Kd.C_nil _ _); (case side4 => exact Nat.le_refl _); (case side5 => refine (Kd.R_reads' (e := 33) (base := w.heap.size) (ok := fun k_ => True) (n := y241.length) (c := co39) ?_).2.2; exact (by (with_reducible repeat (first | apply Kd.R_alloc | apply Kd.R_drewN | apply Kd.R_drew)); exact (Kd.R_mono (Kd.R_far (p := ⟨gb244, 8, none⟩) (Kd.R_far (p := ⟨gb244, 7, none⟩) (Kd.R_far (p := ⟨gb244, 6, none⟩) (Kd.R_far (p := ⟨gb244, 5, none⟩) (Kd.R_far (p := ⟨gb244, 4, none⟩) (Kd.R_far (p := ⟨gb244, 3, none⟩) (Kd.R_far (p := ⟨gb244, 2, none⟩) (Kd.R_far (p := ⟨gb244, 1, none⟩) (Kd.R_far (p := ⟨gb244, 0, none⟩) (Kd.R_types HO243.out BK244.out (by decide)) (fun _ hk => hk.2) (.int .i64 2)) (fun _ hk => hk.2) (.string (⟨#[97]⟩ : ByteArray))) (fun _ hk => hk.2) (.int .i64 5)) (fun _ hk => hk.2) (.bool false)) (fun _ hk => hk.2) (.int .i64 5)) (fun _ hk => hk.2) (.string (⟨#[]⟩ : ByteArray))) (fun _ hk => hk.2) (.int .i64 1)) (fun _ hk => hk.2) (.string (⟨#[]⟩ : ByteArray))) (fun _ hk => hk.2) (.slice none 0 0)) (fun _ h_ => h_.1)))); (case side6 => exact (Kd.R_reads' HO243.out).2.1); rintro e w40 ⟨rfl, hb⟩; refine ⟨_, rfl, ?_⟩; have n0_ := Aa.mk (Kd.R_below (by (with_reducible repeat (first | apply Kd.R_alloc | apply Kd.R_drewN | apply Kd.R_drew)); exact (Kd.R_mono (Kd.R_far (p := ⟨gb244, 8, none⟩) (Kd.R_far (p := ⟨gb244, 7, none⟩) (Kd.R_far (p := ⟨gb244, 6, none⟩) (Kd.R_far (p := ⟨gb244, 5, none⟩) (Kd.R_far (p := ⟨gb244, 4, none⟩) (Kd.R_far (p := ⟨gb244, 3, none⟩) (Kd.R_far (p := ⟨gb244, 2, none⟩) (Kd.R_far (p := ⟨gb244, 1, none⟩) (Kd.R_far (p := ⟨gb244, 0, none⟩) (Kd.R_types HO240.out BK244.out (by decide)) (fun _ hk => hk.2) (.int .i64 2)) (fun _ hk => hk.2) (.string (⟨#[97]⟩ : ByteArray))) (fun _ hk => hk.2) (.int .i64 5)) (fun _ hk => hk.2) (.bool false)) (fun _ hk => hk.2) (.int .i64 5)) (fun _ hk => hk.2) (.string (⟨#[]⟩ : ByteArray))) (fun _ hk => hk.2) (.int .i64 1)) (fun _ hk => hk.2) (.string (⟨#[]⟩ : ByteArray))) (fun _ hk => hk.2) (.slice none 0 0)) (fun _ h_ => h_.1))) hb); have n1_ := Aa.mk (Kd.R_below (by (with_reducible repeat (first | apply Kd.R_alloc | apply Kd.R_drewN | apply Kd.R_drew)); exact (Kd.R_mono (Kd.R_far (p := ⟨gb244, 8, none⟩) (Kd.R_far (p := ⟨gb244, 7, none⟩) (Kd.R_far (p := ⟨gb244, 6, none⟩) (Kd.R_far (p := ⟨gb244, 5, none⟩) (Kd.R_far (p := ⟨gb244, 4, none⟩) (Kd.R_far (p := ⟨gb244, 3, none⟩) (Kd.R_far (p := ⟨gb244, 2, none⟩) (Kd.R_far (p := ⟨gb244, 1, none⟩) (Kd.R_far (p := ⟨gb244, 0, none⟩) (Kd.R_types HO243.out BK244.out (by decide)) (fun _ hk => hk.2) (.int .i64 2)) (fun _ hk => hk.2) (.string (⟨#[97]⟩ : ByteArray))) (fun _ hk => hk.2) (.int .i64 5)) (fun _ hk => hk.2) (.bool false)) (fun _ hk => hk.2) (.int .i64 5)) (fun _ hk => hk.2) (.string (⟨#[]⟩ : ByteArray))) (fun _ hk => hk.2) (.int .i64 1)) (fun _ hk => hk.2) (.string (⟨#[]⟩ : ByteArray))) (fun _ hk => hk.2) (.slice none 0 0)) (fun _ h_ => h_.1))) hb); have n2_ := Aa.mk (Ct (g := gb244) (o := .cells #[.int .i64 2, .string (⟨#[97]⟩ : ByteArray), .int .i64 5, .bool false, .int .i64 5, .string (⟨#[]⟩ : ByteArray), .int .i64 1, .string (⟨#[]⟩ : ByteArray), .slice none 0 0] 27 (0, 0)) (by (with_reducible repeat (first | refine Ag ?_ _ | refine Af ?_ | refine Ae ?_ _)); refine Bs (cs := #[.int .i64 2, .string (⟨#[97]⟩ : ByteArray), .int .i64 5, .bool false, .int .i64 5, .string (⟨#[]⟩ : ByteArray), .int .i64 1, .string (⟨#[]⟩ : ByteArray), .slice none 0 0]) ?_ 8 _ rfl; (with_reducible repeat (first | refine Ag ?_ _ | refine Af ?_ | refine Ae ?_ _)); refine Bs (cs := #[.int .i64 2, .string (⟨#[97]⟩ : ByteArray), .int .i64 5, .bool false, .int .i64 5, .string (⟨#[]⟩ : ByteArray), .int .i64 1, .string (⟨#[]⟩ : ByteArray), .slice none 0 0]) ?_ 7 _ rfl; (with_reducible repeat (first | refine Ag ?_ _ | refine Af ?_ | refine Ae ?_ _)); refine Bs (cs := #[.int .i64 2, .string (⟨#[97]⟩ : ByteArray), .int .i64 5, .bool false, .int .i64 5, .string (⟨#[]⟩ : ByteArray), .int .i64 0, .string (⟨#[]⟩ : ByteArray), .slice none 0 0]) ?_ 6 _ rfl; (with_reducible repeat (first | refine Ag ?_ _ | refine Af ?_ | refine Ae ?_ _)); refine Bs (cs := #[.int .i64 2, .string (⟨#[97]⟩ : ByteArray), .int .i64 5, .bool false, .int .i64 5, .string (⟨#[]⟩ : ByteArray), .int .i64 0, .string (⟨#[]⟩ : ByteArray), .slice none 0 0]) ?_ 5 _ rfl; (with_reducible repeat (first | refine Ag ?_ _ | refine Af ?_ | refine Ae ?_ _)); refine Bs (cs := #[.int .i64 2, .string (⟨#[97]⟩ : ByteArray), .int .i64 5, .bool false, .int .i64 0, .string (⟨#[]⟩ : ByteArray), .int .i64 0, .string (⟨#[]⟩ : ByteArray), .slice none 0 0]) ?_ 4 _ rfl; (with_reducible repeat (first | refine Ag ?_ _ | refine Af ?_ | refine Ae ?_ _)); refine Bs (cs := #[.int .i64 2, .string (⟨#[97]⟩ : ByteArray), .int .i64 5, .bool false, .int .i64 0, .string (⟨#[]⟩ : ByteArray), .int .i64 0, .string (⟨#[]⟩ : ByteArray), .slice none 0 0]) ?_ 3 _ rfl; (with_reducible repeat (first | refine Ag ?_ _ | refine Af ?_ | refine Ae ?_ _)); refine Bs (cs := #[.int .i64 2, .string (⟨#[97]⟩ : ByteArray), .int .i64 0, .bool false, .int .i64 0, .string (⟨#[]⟩ : ByteArray), .int .i64 0, .string (⟨#[]⟩ : ByteArray), .slice none 0 0]) ?_ 2 _ rfl; (with_reducible repeat (first | refine Ag ?_ _ | refine Af ?_ | refine Ae ?_ _)); refine Bs (cs := #[.int .i64 2, .string (⟨#[]⟩ : ByteArray), .int .i64 0, .bool false, .int .i64 0, .string (⟨#[]⟩ : ByteArray), .int .i64 0, .string (⟨#[]⟩ : ByteArray), .slice none 0 0]) ?_ 1 _ rfl; (with_reducible repeat (first | refine Ag ?_ _ | refine Af ?_ | refine Ae ?_ _)); refine Bs (cs := #[.int .i64 0, .string (⟨#[]⟩ : ByteArray), .int .i64 0, .bool false, .int .i64 0, .string (⟨#[]⟩ : ByteArray), .int .i64 0, .string (⟨#[]⟩ : ByteArray), .slice none 0 0]) ?_ 0 _ rfl; (with_reducible repeat (first | refine Ag ?_ _ | refine Af ?_ | refine Ae ?_ _)); exact BK244.out) hb); have n3_ := bs_ HB hb; clear HO240; clear HO243; clear BK244; clear HB; have HO240 := n0_; have HO243 := n1_; have BK244 := n2_; have HB := n3_; clear n0_ n1_ n2_ n3_; (try clear hb); (try clear hb2); (try clear hk); (try clear hi)) | (refine bx_ (N := 4) (cs := #[.bool false, .bool false, .bool false]) (t := 35) ?_; intro gb249 hg w41 hbox hb; have n0_ := Aa.mk (Kd.R_below (by (with_reducible repeat (first | apply Kd.R_alloc | apply Kd.R_drewN | apply Kd.R_drew)); exact HO240.out) hb); have n1_ := Aa.mk (Kd.R_below (by (with_reducible repeat (first | apply Kd.R_alloc | apply Kd.R_drewN | apply Kd.R_drew)); exact HO243.out) hb); have n2_ := bk_ BK244 hb; have n3_ := bs_ HB hb; have n4_ := Aa.mk (hbox); have n5_ := ge_ HB hg; have n6_ := ge_ HB hg; have n7_ := lt_ BK244 hg; have n8_ := gt_ BK244 hg; clear HO240; clear HO243; clear BK244; clear HB; have HO240 := n0_; have HO243 := n1_; have BK244 := n2_; have HB := n3_; have BK249 := n4_; have GW249 := n5_; have GE249 := n6_; have NB244_249 := n7_; have NB249_244 := n8_; clear n0_ n1_ n2_ n3_ n4_ n5_ n6_ n7_ n8_; clear hb hbox hg; have hnb42 := NB249_244.out; have hnc42 := NB244_249.out; obtain ⟨C43_0, C43_1, C43_2⟩ := zc3_ BK249.out; obtain ⟨F43_0, F43_1, F43_2⟩ := zf3_ BK249.out) | ((with_reducible refine Aw (f := 14) rfl ?_); refine gl_ (some 22) rfl Try.func14 #[.int .i64 t248] ?_; (with_reducible refine (Ch.calls t248 t250 _ A2.out).mono ?_); rintro e w' ⟨rfl, ⟨nd, rfl⟩⟩; refine ⟨_, rfl, ?_⟩))
 go_ret
 exact en_ HB)
end Go.Proofs.Ytdedmhmomoejkaa.X
