/- Words and walks for X.pruneSafe_holds, part 4 of the texts that a program of this session laid together. -/
import Derived.Test.YtdedmhmomoejkaaS1
import Derived.Test.YtdedmhmomoejkaaS2
import Derived.Test.YtdedmhmomoejkaaS3
namespace Go.Proofs.Ytdedmhmomoejkaa.X
open Go.RowKit Go.Proofs.YtdedmhmomoejkaaW.PrintWords Go.Proofs.YtdedmhmomoejkaaW.PrintLast Go.Proofs.YtdedmhmomoejkaaW.PrintMore
attribute [local go_sem] max2_int max_two
set_option linter.unusedVariables false
set_option linter.unusedSimpArgs false
def Bh.f (k : Nat) (l0_0 : List (S64)) (l0_1 : List (S33)) (a1_0 : Int) (a1_1 : ByteArray) (a1_2 : Int) (a1_3 : Bool) (a1_4 : Int) (a1_5 : ByteArray) (a1_6 : Int) (a1_7 : ByteArray) (l1_8 : List (S27)) : Option (Bool × Bool × Bool) := if a1_0 = 1 then (some (true, false, false)) else ((Bw.f l0_0 a1_1).bind fun bt176 => (if 0 ≤ bt176.1 then (if bt176.1 < (l0_1.length : Int) then (if a1_0 = 3 then (some (decide (((Au l0_1 bt176.1).f1) > 0), decide (((Au l0_1 bt176.1).f0) > ((Au l0_1 bt176.1).f1)), false)) else (if a1_0 = 2 then (if ((Au l0_1 bt176.1).f0) > ((Au l0_1 bt176.1).f1) then ((Cr.f k ((Au l0_1 bt176.1).f0) ((Au l0_1 bt176.1).f1) ((Au l0_1 bt176.1).f2.f0) ((Au l0_1 bt176.1).f2.f1) ((Au l0_1 bt176.1).f2.f2) ((Au l0_1 bt176.1).f3.f0) ((Au l0_1 bt176.1).f3.f1) ((Au l0_1 bt176.1).f3.f2) a1_2 a1_3 a1_4 a1_5).bind fun t180 => ((Cw.f a1_2).bind fun t181 => ((Cr.f k ((Au l0_1 bt176.1).f0) ((Au l0_1 bt176.1).f1) ((Au l0_1 bt176.1).f2.f0) ((Au l0_1 bt176.1).f2.f1) ((Au l0_1 bt176.1).f2.f2) ((Au l0_1 bt176.1).f3.f0) ((Au l0_1 bt176.1).f3.f1) ((Au l0_1 bt176.1).f3.f2) t181 a1_3 a1_4 a1_5).bind fun t182 => (some (t180, t182, decide (((Au l0_1 bt176.1).f1) > 0)))))) else (some (false, false, decide (((Au l0_1 bt176.1).f1) > 0)))) else (some (decide (((Au l0_1 bt176.1).f0) > ((Au l0_1 bt176.1).f1)), decide (((Au l0_1 bt176.1).f0) > ((Au l0_1 bt176.1).f1)), decide (((Au l0_1 bt176.1).f1) > 0))))) else (none)) else (none)))
theorem Bh.mono : ∀ a0 a1 a2 a3 a4 a5 a6 a7 a8 a9 a10 k, LeO (Bh.f k a0 a1 a2 a3 a4 a5 a6 a7 a8 a9 a10) (Bh.f (k + 1) a0 a1 a2 a3 a4 a5 a6 a7 a8 a9 a10) := by
 intro a0 a1 a2 a3 a4 a5 a6 a7 a8 a9 a10 k
 unfold Bh.f
 repeat' first|(with_reducible first|exact Cr.mono _ _ _ _ _ _ _ _ _ _ _ _ _|exact LeO.refl _|exact LeO.none _|refine LeO.ite ?_ ?_|refine LeO.bind ?_ fun _=>?_)|exact Cr.mono _ _ _ _ _ _ _ _ _ _ _ _ _|exact LeO.none _|refine LeO.ite ?_ ?_|refine LeO.bind ?_ fun _=>?_
def Bh.T5 : Bool × List (List Nat × List Nat) := (true, [([], []), ([0], [0]), ([], []), ([2], [2]), ([1, 3], [1, 3]), ([], []), ([5], [5]), ([6], [6]), ([4, 0, 1, 2, 3, 4], [4]), ([7, 8, 0, 1, 2, 3, 4, 5, 6, 7, 8], [7])])
def Bh.B5 : List Nat := [0, 1, 0, 4, 15, 0, 32, 96, 31, 511]
theorem Bh.tab5 : rtab .any (opsOf Try.f53 5) = Bh.T5 := by kernel_rfl
theorem Bh.bits5 : waitsOk Bh.T5.2 Bh.B5 = true := by kernel_rfl
def Bh.T10 : Bool × List (List Nat × List Nat) := (true, [([], []), ([0], [0]), ([1], [1]), ([1], [1]), ([3, 1], [1, 3]), ([1], [1]), ([5, 1], [1, 5]), ([2, 4, 6, 1, 1], [1, 2, 4, 6]), ([1, 7], [1, 7]), ([], []), ([9, 7], [9]), ([10], [10]), ([10], [10]), ([12, 10], [10, 12]), ([13, 10, 10], [10, 13]), ([10], [10]), ([15, 10], [10, 15]), ([11, 14, 16, 14, 10], [10, 11, 14, 16]), ([10, 17], [10, 17]), ([], []), ([8, 18, 19], [8, 18, 19]), ([20, 17, 0, 1, 2, 3, 4, 5, 6, 7, 8, 9, 10, 11, 12, 13, 14, 15, 16, 17, 18, 19, 20], [20])])
def Bh.B10 : List Nat := [0, 1, 3, 3, 11, 3, 35, 127, 255, 0, 767, 1791, 1791, 5887, 14079, 1791, 34559, 130815, 261887, 0, 1048575, 2097151]
theorem Bh.tab10 : rtab .any (opsOf Try.f53 10) = Bh.T10 := by kernel_rfl
theorem Bh.bits10 : waitsOk Bh.T10.2 Bh.B10 = true := by kernel_rfl
set_option maxHeartbeats 8000000 in
set_option maxRecDepth 100000 in
theorem Bh.calls (k : Nat) (A0_0 : Option Addr) (c0_0 : Nat) (l0_0 : List (S64)) (A0_1 : Option Addr) (c0_1 : Nat) (l0_1 : List (S33)) (a1_0 : Int) (a1_1 : ByteArray) (a1_2 : Int) (a1_3 : Bool) (a1_4 : Int) (a1_5 : ByteArray) (a1_6 : Int) (a1_7 : ByteArray) (A1_8 : Option Addr) (c1_8 : Nat) (l1_8 : List (S27)) (r1 : Bool) (r2 : Bool) (r3 : Bool) (w : World) (hr0_0 : Kd.C k64 w A0_0 l0_0.length l0_0) (hc0_0 : l0_0.length ≤ c0_0) (hr0_1 : Kd.C k33 w A0_1 l0_1.length l0_1) (hc0_1 : l0_1.length ≤ c0_1) (hr1_8 : Kd.C k27 w A1_8 l1_8.length l1_8) (hc1_8 : l1_8.length ≤ c1_8) (h : Bh.f k l0_0 l0_1 a1_0 a1_1 a1_2 a1_3 a1_4 a1_5 a1_6 a1_7 l1_8 = some (r1, r2, r3)) :
  Calls Try.prog 53 #[.agg #[.slice A0_0 l0_0.length c0_0, .slice A0_1 l0_1.length c0_1], .agg #[.int .i64 a1_0, .string a1_1, .int .i64 a1_2, .bool a1_3, .int .i64 a1_4, .string a1_5, .int .i64 a1_6, .string a1_7, .slice A1_8 l1_8.length c1_8]] w fun e w' => e = .returned (.agg #[.bool r1, .bool r2, .bool r3]) ∧ Below w.heap.size w w' := by
 have hu68 := Try.underlying68
 have hu27 := Try.underlying27
 have hu35 := Try.underlying35
 have hu33 := Try.underlying33
 have hu24 := Try.underlying24
 have HR0_0 := Aa.mk hr0_0
 have HC0_0 := Aa.mk hc0_0
 clear hr0_0 hc0_0
 have HR0_1 := Aa.mk hr0_1
 have HC0_1 := Aa.mk hc0_1
 clear hr0_1 hc0_1
 have HR1_8 := Aa.mk hr1_8
 have HC1_8 := Aa.mk hc1_8
 clear hr1_8 hc1_8
 have HB := Aa.mk (Below.refl w.heap.size w)
 have H : (if a1_0 = 1 then (some (true, false, false)) else ((Bw.f l0_0 a1_1).bind fun bt176 => (if 0 ≤ bt176.1 then (if bt176.1 < (l0_1.length : Int) then (if a1_0 = 3 then (some (decide (((Au l0_1 bt176.1).f1) > 0), decide (((Au l0_1 bt176.1).f0) > ((Au l0_1 bt176.1).f1)), false)) else (if a1_0 = 2 then (if ((Au l0_1 bt176.1).f0) > ((Au l0_1 bt176.1).f1) then ((Cr.f k ((Au l0_1 bt176.1).f0) ((Au l0_1 bt176.1).f1) ((Au l0_1 bt176.1).f2.f0) ((Au l0_1 bt176.1).f2.f1) ((Au l0_1 bt176.1).f2.f2) ((Au l0_1 bt176.1).f3.f0) ((Au l0_1 bt176.1).f3.f1) ((Au l0_1 bt176.1).f3.f2) a1_2 a1_3 a1_4 a1_5).bind fun t180 => ((Cw.f a1_2).bind fun t181 => ((Cr.f k ((Au l0_1 bt176.1).f0) ((Au l0_1 bt176.1).f1) ((Au l0_1 bt176.1).f2.f0) ((Au l0_1 bt176.1).f2.f1) ((Au l0_1 bt176.1).f2.f2) ((Au l0_1 bt176.1).f3.f0) ((Au l0_1 bt176.1).f3.f1) ((Au l0_1 bt176.1).f3.f2) t181 a1_3 a1_4 a1_5).bind fun t182 => (some (t180, t182, decide (((Au l0_1 bt176.1).f1) > 0)))))) else (some (false, false, decide (((Au l0_1 bt176.1).f1) > 0)))) else (some (decide (((Au l0_1 bt176.1).f0) > ((Au l0_1 bt176.1).f1)), decide (((Au l0_1 bt176.1).f0) > ((Au l0_1 bt176.1).f1)), decide (((Au l0_1 bt176.1).f1) > 0))))) else (none)) else (none)))) = some (r1, r2, r3) := h
 clear h
 by_cases c3 : a1_0 = 1
 ·(
 rw [if_pos c3] at H
 have c3b0 : (a1_0 == 1) = true := Dl c3
 have c3b1 : (a1_0 != 1) = false := Dk c3
 clear c3
 simp only [Option.some.injEq, Prod.mk.injEq] at H
 obtain ⟨rfl, rfl, rfl⟩ := H
 go_enter Try.func53, Try.ntmps53
 go_wp2_with (first | (refine bx_ (N := 2) (cs := #[.slice A0_0 l0_0.length c0_0, .slice A0_1 l0_1.length c0_1]) (t := 68) ?_; intro gb173 hg w4 hbox hb; have BK173 := Aa.mk (hbox); have GW173 := ge_ HB hg; have GE173 := ge_ HB hg; replace HB := bs_ HB hb; clear hb hbox hg) | (refine bx_ (N := 3) (cs := #[.int .i64 a1_0, .string a1_1, .int .i64 a1_2, .bool a1_3, .int .i64 a1_4, .string a1_5, .int .i64 a1_6, .string a1_7, .slice A1_8 l1_8.length c1_8]) (t := 27) ?_; intro gb174 hg w5 hbox hb; have BK174 := Aa.mk (hbox); have GW174 := ge_ HB hg; have GE174 := ge_ HB hg; have NB173_174 := lt_ BK173 hg; have NB174_173 := gt_ BK173 hg; replace BK173 := bk_ BK173 hb; replace HB := bs_ HB hb; clear hb hbox hg) | (refine bx_ (N := 4) (cs := #[.bool false, .bool false, .bool false]) (t := 35) ?_; intro gb175 hg w6 hbox hb; have BK175 := Aa.mk (hbox); have GW175 := ge_ HB hg; have GE175 := ge_ HB hg; have NB173_175 := lt_ BK173 hg; have NB175_173 := gt_ BK173 hg; have NB174_175 := lt_ BK174 hg; have NB175_174 := gt_ BK174 hg; replace BK173 := bk_ BK173 hb; replace BK174 := bk_ BK174 hb; replace HB := bs_ HB hb; clear hb hbox hg; have hnb7 := NB174_173.out; have hnc7 := NB173_174.out; have hnb8 := NB174_175.out; have hnc8 := NB175_174.out; obtain ⟨C9_0, C9_1, C9_2, C9_3, C9_4, C9_5, C9_6, C9_7, C9_8⟩ := zc9_ BK174.out; obtain ⟨F9_0, F9_1, F9_2, F9_3, F9_4, F9_5, F9_6, F9_7, F9_8⟩ := zf9_ BK174.out; have hnb10 := NB175_173.out; have hnc10 := NB173_175.out; obtain ⟨C11_0, C11_1, C11_2⟩ := zc3_ BK175.out; obtain ⟨F11_0, F11_1, F11_2⟩ := zf3_ BK175.out))
 refine bodyPost_ret (results_cell_row rfl _ _ gb175 35 #[.bool true, .bool false, .bool false] (0, 0) _ rfl (by (with_reducible repeat (first | refine Ag ?_ _ | refine Af ?_ | refine Ae ?_ _)); apply Cf; (with_reducible repeat (first | refine Ag ?_ _ | refine Af ?_ | refine Ae ?_ _)); exact BK175.out) Try.underlying35 rfl (by kernel_rfl)) rfl ?_
 exact en_ HB)
 ·(
 rw [if_neg c3] at H
 have c3b0 : (a1_0 == 1) = false := Dj c3
 have c3b1 : (a1_0 != 1) = true := Dm c3
 replace H := Dn H
 obtain ⟨⟨t176, t177⟩, A120, H⟩ := H
 replace H : (if 0 ≤ t176 then (if t176 < (l0_1.length : Int) then (if a1_0 = 3 then (some (decide (((Au l0_1 t176).f1) > 0), decide (((Au l0_1 t176).f0) > ((Au l0_1 t176).f1)), false)) else (if a1_0 = 2 then (if ((Au l0_1 t176).f0) > ((Au l0_1 t176).f1) then ((Cr.f k ((Au l0_1 t176).f0) ((Au l0_1 t176).f1) ((Au l0_1 t176).f2.f0) ((Au l0_1 t176).f2.f1) ((Au l0_1 t176).f2.f2) ((Au l0_1 t176).f3.f0) ((Au l0_1 t176).f3.f1) ((Au l0_1 t176).f3.f2) a1_2 a1_3 a1_4 a1_5).bind fun t180 => ((Cw.f a1_2).bind fun t181 => ((Cr.f k ((Au l0_1 t176).f0) ((Au l0_1 t176).f1) ((Au l0_1 t176).f2.f0) ((Au l0_1 t176).f2.f1) ((Au l0_1 t176).f2.f2) ((Au l0_1 t176).f3.f0) ((Au l0_1 t176).f3.f1) ((Au l0_1 t176).f3.f2) t181 a1_3 a1_4 a1_5).bind fun t182 => (some (t180, t182, decide (((Au l0_1 t176).f1) > 0)))))) else (some (false, false, decide (((Au l0_1 t176).f1) > 0)))) else (some (decide (((Au l0_1 t176).f0) > ((Au l0_1 t176).f1)), decide (((Au l0_1 t176).f0) > ((Au l0_1 t176).f1)), decide (((Au l0_1 t176).f1) > 0))))) else (none)) else (none)) = some (r1, r2, r3) := H
 have A12 := Aa.mk A120
 clear A120
 by_cases c13 : 0 ≤ t176
 ·(
 rw [if_pos c13] at H
 have c13b0 : decide (0 ≤ t176) = true := decide_eq_true c13
 clear c13
 by_cases c14 : t176 < (l0_1.length : Int)
 ·(
 rw [if_pos c14] at H
 have c14b0 : decide (t176 < (l0_1.length : Int)) = true := decide_eq_true c14
 clear c14
 have H' := Aa.mk H
 clear H
 go_enter Try.func53, Try.ntmps53
 try go_wp2_with (first | (refine bx_ (N := 2) (cs := #[.slice A0_0 l0_0.length c0_0, .slice A0_1 l0_1.length c0_1]) (t := 68) ?_; intro gb173 hg w16 hbox hb; have BK173 := Aa.mk (hbox); have GW173 := ge_ HB hg; have GE173 := ge_ HB hg; replace HB := bs_ HB hb; clear hb hbox hg) | (refine bx_ (N := 3) (cs := #[.int .i64 a1_0, .string a1_1, .int .i64 a1_2, .bool a1_3, .int .i64 a1_4, .string a1_5, .int .i64 a1_6, .string a1_7, .slice A1_8 l1_8.length c1_8]) (t := 27) ?_; intro gb174 hg w17 hbox hb; have BK174 := Aa.mk (hbox); have GW174 := ge_ HB hg; have GE174 := ge_ HB hg; have NB173_174 := lt_ BK173 hg; have NB174_173 := gt_ BK173 hg; replace BK173 := bk_ BK173 hb; replace HB := bs_ HB hb; clear hb hbox hg) | (refine bx_ (N := 4) (cs := #[.bool false, .bool false, .bool false]) (t := 35) ?_; intro gb175 hg w18 hbox hb; have BK175 := Aa.mk (hbox); have GW175 := ge_ HB hg; have GE175 := ge_ HB hg; have NB173_175 := lt_ BK173 hg; have NB175_173 := gt_ BK173 hg; have NB174_175 := lt_ BK174 hg; have NB175_174 := gt_ BK174 hg; replace BK173 := bk_ BK173 hb; replace BK174 := bk_ BK174 hb; replace HB := bs_ HB hb; clear hb hbox hg; have hnb19 := NB174_173.out; have hnc19 := NB173_174.out; have hnb20 := NB174_175.out; have hnc20 := NB175_174.out; obtain ⟨C21_0, C21_1, C21_2, C21_3, C21_4, C21_5, C21_6, C21_7, C21_8⟩ := zc9_ BK174.out; obtain ⟨F21_0, F21_1, F21_2, F21_3, F21_4, F21_5, F21_6, F21_7, F21_8⟩ := zf9_ BK174.out; have hnb22 := NB173_175.out; have hnc22 := NB175_173.out; obtain ⟨C23_0, C23_1⟩ := zc2_ BK173.out; obtain ⟨F23_0, F23_1⟩ := zf2_ BK173.out) | ((with_reducible refine Aw (f := 69) rfl ?_); refine gl_ (some 19) rfl Try.func69 #[.slice A0_0 l0_0.length c0_0, .string a1_1] ?_; (with_reducible refine (Bw.calls _ _ l0_0 a1_1 t176 t177 _ ?side1 ?side2 A12.out).mono ?_); (case side1 => repeat (first | exact (Kd.C_below HR0_0.out HB.out) | (with_reducible refine Kd.C_alloc ?_ _) | (with_reducible refine Kd.C_drewN ?_ _) | (with_reducible refine Kd.C_drew ?_))); (case side2 => exact HC0_0.out); rintro e w24 ⟨rfl, hb⟩; refine ⟨_, rfl, ?_⟩;  replace BK173 := bk_ BK173 hb; replace BK174 := bk_ BK174 hb; replace BK175 := bk_ BK175 hb; replace HB := bs_ HB hb; (try clear hb); (try clear hb2); (try clear hk); (try clear hi); obtain ⟨C25_0, C25_1⟩ := zc2_ BK173.out; obtain ⟨F25_0, F25_1⟩ := zf2_ BK173.out; have p178 : 0 ≤ (t176 : Int) := dt_; have q178 : t176 < (l0_1.length : Int) := dt_; obtain ⟨ad178, e178, hx178_0, hx178_1, hx178_2, hx178_3, hx178_4, hx178_5, hx178_6, hx178_7⟩ := at_T33 HR0_1.out t176 p178 q178; cases e178; replace hx178_0 := hc_ HB hx178_0; replace hx178_1 := hc_ HB hx178_1; replace hx178_2 := hc_ HB hx178_2; replace hx178_3 := hc_ HB hx178_3; replace hx178_4 := hc_ HB hx178_4; replace hx178_5 := hc_ HB hx178_5; replace hx178_6 := hc_ HB hx178_6; replace hx178_7 := hc_ HB hx178_7; replace p178 := eq_true p178; replace q178 := eq_true q178) | (refine bx_ (N := 7) (cs := #[.int .i64 0, .int .i64 0, .bool false, .int .i64 0, .string (⟨#[]⟩ : ByteArray), .bool false, .int .i64 0, .string (⟨#[]⟩ : ByteArray)]) (t := 33) ?_; intro gb179 hg w26 hbox hb; have BK179 := Aa.mk (hbox); have GW179 := ge_ HB hg; have GE179 := ge_ HB hg; have NB173_179 := lt_ BK173 hg; have NB179_173 := gt_ BK173 hg; have NB174_179 := lt_ BK174 hg; have NB179_174 := gt_ BK174 hg; have NB175_179 := lt_ BK175 hg; have NB179_175 := gt_ BK175 hg; replace BK173 := bk_ BK173 hb; replace BK174 := bk_ BK174 hb; replace BK175 := bk_ BK175 hb; replace HB := bs_ HB hb; clear hb hbox hg; have hnb27 := NB179_173.out; have hnc27 := NB173_179.out; have hnb28 := NB179_174.out; have hnc28 := NB174_179.out; have hnb29 := NB179_175.out; have hnc29 := NB175_179.out; obtain ⟨C30_0, C30_1, C30_2, C30_3, C30_4, C30_5, C30_6, C30_7⟩ := zc8_ BK179.out; obtain ⟨F30_0, F30_1, F30_2, F30_3, F30_4, F30_5, F30_6, F30_7⟩ := zf8_ BK179.out))
 obtain ⟨w31, hcw31⟩ : ∃ w_, w_ = ((((((((w26.setCell ⟨gb179, 0, none⟩ (.int .i64 ((Au l0_1 t176).f0))).setCell ⟨gb179, 1, none⟩ (.int .i64 ((Au l0_1 t176).f1))).setCell ⟨gb179, 2, none⟩ (.bool ((Au l0_1 t176).f2.f0))).setCell ⟨gb179, 3, none⟩ (.int .i64 ((Au l0_1 t176).f2.f1))).setCell ⟨gb179, 4, none⟩ (.string ((Au l0_1 t176).f2.f2))).setCell ⟨gb179, 5, none⟩ (.bool ((Au l0_1 t176).f3.f0))).setCell ⟨gb179, 6, none⟩ (.int .i64 ((Au l0_1 t176).f3.f1))).setCell ⟨gb179, 7, none⟩ (.string ((Au l0_1 t176).f3.f2))) := ⟨_, rfl⟩
 rw [← hcw31]
 have n0_ : Aa (w31.heap[gb173]? = some (.cells #[.slice A0_0 l0_0.length c0_0, .slice (some ad178) l0_1.length c0_1] 68 (0, 0))) := ⟨by rw [hcw31]; (iterate 8 ((with_reducible repeat (first | refine Ag ?_ _ | refine Af ?_ | refine Ae ?_ _)); refine Bv ?_ NB173_179.out _)); (with_reducible repeat (first | refine Ag ?_ _ | refine Af ?_ | refine Ae ?_ _)); exact BK173.out⟩
 have n1_ : Aa (w31.heap[gb174]? = some (.cells #[.int .i64 a1_0, .string a1_1, .int .i64 a1_2, .bool a1_3, .int .i64 a1_4, .string a1_5, .int .i64 a1_6, .string a1_7, .slice A1_8 l1_8.length c1_8] 27 (0, 0))) := ⟨by rw [hcw31]; (iterate 8 ((with_reducible repeat (first | refine Ag ?_ _ | refine Af ?_ | refine Ae ?_ _)); refine Bv ?_ NB174_179.out _)); (with_reducible repeat (first | refine Ag ?_ _ | refine Af ?_ | refine Ae ?_ _)); exact BK174.out⟩
 have n2_ : Aa (w31.heap[gb175]? = some (.cells #[.bool false, .bool false, .bool false] 35 (0, 0))) := ⟨by rw [hcw31]; (iterate 8 ((with_reducible repeat (first | refine Ag ?_ _ | refine Af ?_ | refine Ae ?_ _)); refine Bv ?_ NB175_179.out _)); (with_reducible repeat (first | refine Ag ?_ _ | refine Af ?_ | refine Ae ?_ _)); exact BK175.out⟩
 have n3_ : Aa (w31.heap[gb179]? = some (.cells #[.int .i64 ((Au l0_1 t176).f0), .int .i64 ((Au l0_1 t176).f1), .bool ((Au l0_1 t176).f2.f0), .int .i64 ((Au l0_1 t176).f2.f1), .string ((Au l0_1 t176).f2.f2), .bool ((Au l0_1 t176).f3.f0), .int .i64 ((Au l0_1 t176).f3.f1), .string ((Au l0_1 t176).f3.f2)] 33 (0, 0))) := ⟨by rw [hcw31]; (with_reducible repeat (first | refine Ag ?_ _ | refine Af ?_ | refine Ae ?_ _)); apply blk_all8_; (with_reducible repeat (first | refine Ag ?_ _ | refine Af ?_ | refine Ae ?_ _)); exact BK179.out⟩
 have n4_ : Aa (Below w.heap.size w w31) := ⟨by rw [hcw31]; repeat (first | (with_reducible first | exact HB.out | apply Ak | apply Ah | apply Aj | refine Ao ?_ GE173.out | refine Ao ?_ GE174.out | refine Ao ?_ GE175.out | refine Ao ?_ GE179.out) | exact HB.out)⟩
 (try clear BK173)
 (try clear BK174)
 (try clear BK175)
 (try clear BK179)
 (try clear HB)
 clear hcw31
 have BK173 := n0_
 have BK174 := n1_
 have BK175 := n2_
 have BK179 := n3_
 have HB := n4_
 clear n0_ n1_ n2_ n3_ n4_
 replace BK173 := Aa.mk (Af BK173.out); replace BK174 := Aa.mk (Af BK174.out); replace BK175 := Aa.mk (Af BK175.out); replace BK179 := Aa.mk (Af BK179.out); replace HB := Aa.mk (Aj HB.out)
 refine start_ (n := 10) (S := fun w' => w'.cell? ⟨gb179, 0, none⟩ = some (.int .i64 ((Au l0_1 t176).f0)) ∧ w'.cell? ⟨gb179, 1, none⟩ = some (.int .i64 ((Au l0_1 t176).f1)) ∧ w'.cell? ⟨gb179, 2, none⟩ = some (.bool ((Au l0_1 t176).f2.f0)) ∧ w'.cell? ⟨gb179, 3, none⟩ = some (.int .i64 ((Au l0_1 t176).f2.f1)) ∧ w'.cell? ⟨gb179, 4, none⟩ = some (.string ((Au l0_1 t176).f2.f2)) ∧ w'.cell? ⟨gb179, 5, none⟩ = some (.bool ((Au l0_1 t176).f3.f0)) ∧ w'.cell? ⟨gb179, 6, none⟩ = some (.int .i64 ((Au l0_1 t176).f3.f1)) ∧ w'.cell? ⟨gb179, 7, none⟩ = some (.string ((Au l0_1 t176).f3.f2))) (ds := []) #[false, false, false, false, false, false, false, false, false, false] (by kernel_rfl) rfl rfl ⟨(Ab BK179.out 0).trans rfl, (Ab BK179.out 1).trans rfl, (Ab BK179.out 2).trans rfl, (Ab BK179.out 3).trans rfl, (Ab BK179.out 4).trans rfl, (Ab BK179.out 5).trans rfl, (Ab BK179.out 6).trans rfl, (Ab BK179.out 7).trans rfl⟩ (fun hHeld => ?_); refine with_tabW Bh.tab5 Bh.bits5 (fun HT_ HW_ => ?_)
 generalize w31.drew = w32 at BK173 BK174 BK175 BK179 HB hHeld ⊢
 refine pu_ 0 (some 27) (bl_ 10 1) ?_
 refine pu_ 2 (some 29) (bl_ 10 5) ?_
 refine pu_ 5 (some 32) (bl_ 10 37) ?_
 refine ta_ 1 (some 28) (bl_ 10 39) hHeld ?_
 refine ta_ 3 (some 30) (bl_ 10 47) hHeld ?_
 refine pu_ 4 (some 31) (bl_ 10 63) ?_
 refine pu_ 8 (some 8) (bl_ 10 319) ?_
 refine ta_ 6 (some 33) (bl_ 10 383) hHeld ?_
 refine pu_ 7 (some 34) (bl_ 10 511) ?_
 refine pu_ 9 (some 9) (bl_ 10 1023) ?_
 refine done_ (done_of HT_.out (by kernel_rfl)) ?_
 have H := H'.out
 clear H'
 by_cases c15 : a1_0 = 3
 ·(
 rw [if_pos c15] at H
 have c15b0 : (a1_0 == 3) = true := Dl c15
 have c15b1 : (a1_0 != 3) = false := Dk c15
 clear c15
 simp only [Option.some.injEq, Prod.mk.injEq] at H
 obtain ⟨rfl, rfl, rfl⟩ := H
 obtain ⟨C33_0, C33_1, C33_2, C33_3, C33_4, C33_5, C33_6, C33_7, C33_8⟩ := cz9_ BK174.out
 obtain ⟨F33_0, F33_1, F33_2, F33_3, F33_4, F33_5, F33_6, F33_7, F33_8⟩ := fz9_ BK174.out
 obtain ⟨C34_0, C34_1, C34_2⟩ := cz3_ BK175.out
 obtain ⟨F34_0, F34_1, F34_2⟩ := fz3_ BK175.out
 try go_wp2
 refine bodyPost_ret (results_cell_row rfl _ _ gb175 35 #[.bool (decide (((Au l0_1 t176).f1) > 0)), .bool (decide (((Au l0_1 t176).f0) > ((Au l0_1 t176).f1))), .bool false] (0, 0) _ rfl (by (with_reducible repeat (first | refine Ag ?_ _ | refine Af ?_ | refine Ae ?_ _)); apply Cf; (with_reducible repeat (first | refine Ag ?_ _ | refine Af ?_ | refine Ae ?_ _)); exact BK175.out) Try.underlying35 rfl (by kernel_rfl)) rfl ?_
 exact en_ HB)
 ·(
 rw [if_neg c15] at H
 have c15b0 : (a1_0 == 3) = false := Dj c15
 have c15b1 : (a1_0 != 3) = true := Dm c15
 by_cases c35 : a1_0 = 2
 ·(
 rw [if_pos c35] at H
 have c35b0 : (a1_0 == 2) = true := Dl c35
 have c35b1 : (a1_0 != 2) = false := Dk c35
 clear c35
 by_cases c36 : ((Au l0_1 t176).f0) > ((Au l0_1 t176).f1)
 ·(
 rw [if_pos c36] at H
 have c36b0 : decide (((Au l0_1 t176).f1) < ((Au l0_1 t176).f0)) = true := decide_eq_true c36
 clear c36
 replace H := Dn H
 obtain ⟨t180, A370, H⟩ := H
 replace H : ((Cw.f a1_2).bind fun t181 => ((Cr.f k ((Au l0_1 t176).f0) ((Au l0_1 t176).f1) ((Au l0_1 t176).f2.f0) ((Au l0_1 t176).f2.f1) ((Au l0_1 t176).f2.f2) ((Au l0_1 t176).f3.f0) ((Au l0_1 t176).f3.f1) ((Au l0_1 t176).f3.f2) t181 a1_3 a1_4 a1_5).bind fun t182 => (some (t180, t182, decide (((Au l0_1 t176).f1) > 0))))) = some (r1, r2, r3) := H
 have A37 := Aa.mk A370
 clear A370
 replace H := Dn H
 obtain ⟨t181, A380, H⟩ := H
 replace H : ((Cr.f k ((Au l0_1 t176).f0) ((Au l0_1 t176).f1) ((Au l0_1 t176).f2.f0) ((Au l0_1 t176).f2.f1) ((Au l0_1 t176).f2.f2) ((Au l0_1 t176).f3.f0) ((Au l0_1 t176).f3.f1) ((Au l0_1 t176).f3.f2) t181 a1_3 a1_4 a1_5).bind fun t182 => (some (t180, t182, decide (((Au l0_1 t176).f1) > 0)))) = some (r1, r2, r3) := H
 have A38 := Aa.mk A380
 clear A380
 replace H := Dn H
 obtain ⟨t182, A390, H⟩ := H
 replace H : (some (t180, t182, decide (((Au l0_1 t176).f1) > 0))) = some (r1, r2, r3) := H
 have A39 := Aa.mk A390
 clear A390
 simp only [Option.some.injEq, Prod.mk.injEq] at H
 obtain ⟨rfl, rfl, rfl⟩ := H
 obtain ⟨C57_0, C57_1, C57_2, C57_3, C57_4, C57_5, C57_6, C57_7, C57_8⟩ := cz9_ BK174.out
 obtain ⟨F57_0, F57_1, F57_2, F57_3, F57_4, F57_5, F57_6, F57_7, F57_8⟩ := fz9_ BK174.out
 try go_wp2
 replace BK173 := Aa.mk (Af BK173.out); replace BK174 := Aa.mk (Af BK174.out); replace BK175 := Aa.mk (Af BK175.out); replace BK179 := Aa.mk (Af BK179.out); replace HB := Aa.mk (Aj HB.out)
 refine start_ (n := 22) (S := fun w' => w'.cell? ⟨gb179, 0, none⟩ = some (.int .i64 ((Au l0_1 t176).f0)) ∧ w'.cell? ⟨gb179, 1, none⟩ = some (.int .i64 ((Au l0_1 t176).f1)) ∧ w'.cell? ⟨gb179, 2, none⟩ = some (.bool ((Au l0_1 t176).f2.f0)) ∧ w'.cell? ⟨gb179, 3, none⟩ = some (.int .i64 ((Au l0_1 t176).f2.f1)) ∧ w'.cell? ⟨gb179, 4, none⟩ = some (.string ((Au l0_1 t176).f2.f2)) ∧ w'.cell? ⟨gb179, 5, none⟩ = some (.bool ((Au l0_1 t176).f3.f0)) ∧ w'.cell? ⟨gb179, 6, none⟩ = some (.int .i64 ((Au l0_1 t176).f3.f1)) ∧ w'.cell? ⟨gb179, 7, none⟩ = some (.string ((Au l0_1 t176).f3.f2)) ∧ w'.cell? ⟨gb174, 0, none⟩ = some (.int .i64 a1_0) ∧ w'.cell? ⟨gb174, 1, none⟩ = some (.string a1_1) ∧ w'.cell? ⟨gb174, 2, none⟩ = some (.int .i64 a1_2) ∧ w'.cell? ⟨gb174, 3, none⟩ = some (.bool a1_3) ∧ w'.cell? ⟨gb174, 4, none⟩ = some (.int .i64 a1_4) ∧ w'.cell? ⟨gb174, 5, none⟩ = some (.string a1_5) ∧ w'.cell? ⟨gb174, 6, none⟩ = some (.int .i64 a1_6) ∧ w'.cell? ⟨gb174, 7, none⟩ = some (.string a1_7) ∧ w'.cell? ⟨gb174, 8, none⟩ = some (.slice A1_8 l1_8.length c1_8)) (ds := []) #[false, false, false, false, false, false, false, false, false, false, false, false, false, false, false, false, false, false, false, false, false, false] (by kernel_rfl) rfl rfl ⟨(Ab BK179.out 0).trans rfl, (Ab BK179.out 1).trans rfl, (Ab BK179.out 2).trans rfl, (Ab BK179.out 3).trans rfl, (Ab BK179.out 4).trans rfl, (Ab BK179.out 5).trans rfl, (Ab BK179.out 6).trans rfl, (Ab BK179.out 7).trans rfl, (Ab BK174.out 0).trans rfl, (Ab BK174.out 1).trans rfl, (Ab BK174.out 2).trans rfl, (Ab BK174.out 3).trans rfl, (Ab BK174.out 4).trans rfl, (Ab BK174.out 5).trans rfl, (Ab BK174.out 6).trans rfl, (Ab BK174.out 7).trans rfl, (Ab BK174.out 8).trans rfl⟩ (fun hHeld => ?_); refine with_tabW Bh.tab10 Bh.bits10 (fun HT_ HW_ => ?_)
 generalize w32.drew = w58 at BK173 BK174 BK175 BK179 HB hHeld ⊢
 refine pu_ 0 (some 44) (bl_ 22 1) ?_
 refine pu_ 1 (some 45) (bl_ 22 3) ?_
 refine pu_ 3 (some 47) (bl_ 22 11) ?_
 refine pu_ 5 (some 49) (bl_ 22 43) ?_
 refine pu_ 9 (some 53) (bl_ 22 555) ?_
 refine pu_ 19 (some 63) (bl_ 22 524843) ?_
 refine ta_ 2 (some 46) (bl_ 22 524847) hHeld ?_
 refine ta_ 4 (some 48) (bl_ 22 524863) hHeld ?_
 refine ta_ 6 (some 50) (bl_ 22 524927) hHeld ?_
 refine one_ (i := 7) (N := some 51) #[true, true, true, true, true, true, true, true, false, true, false, false, false, false, false, false, false, false, false, true, false, false] rfl rfl (one_of HT_.out (by kernel_rfl)) (by decide) (fun K hK => ?_)
 refine gs_ Try.func75 #[.agg #[.int .i64 ((Au l0_1 t176).f0), .int .i64 ((Au l0_1 t176).f1), .bool ((Au l0_1 t176).f2.f0), .int .i64 ((Au l0_1 t176).f2.f1), .string ((Au l0_1 t176).f2.f2), .bool ((Au l0_1 t176).f3.f0), .int .i64 ((Au l0_1 t176).f3.f1), .string ((Au l0_1 t176).f3.f2)], .int .i64 a1_2, .agg #[.bool a1_3, .int .i64 a1_4, .string a1_5]] ?_
 with_reducible refine (Cr.calls k ((Au l0_1 t176).f0) ((Au l0_1 t176).f1) ((Au l0_1 t176).f2.f0) ((Au l0_1 t176).f2.f1) ((Au l0_1 t176).f2.f2) ((Au l0_1 t176).f3.f0) ((Au l0_1 t176).f3.f1) ((Au l0_1 t176).f3.f2) a1_2 a1_3 a1_4 a1_5 t180 _ A37.out).mono ?_
 rintro e w59 ⟨rfl, hb⟩
 refine ⟨_, rfl, ?_⟩
 replace BK173 := bk_ BK173 hb; replace BK174 := bk_ BK174 hb; replace BK175 := bk_ BK175 hb; replace BK179 := bk_ BK179 hb; replace HB := bs_ HB hb
 (try clear hb)
 (try clear hb2)
 (try clear hk)
 (try clear hi)
 refine hK.out _ _ ⟨(Ab BK179.out 0).trans rfl, (Ab BK179.out 1).trans rfl, (Ab BK179.out 2).trans rfl, (Ab BK179.out 3).trans rfl, (Ab BK179.out 4).trans rfl, (Ab BK179.out 5).trans rfl, (Ab BK179.out 6).trans rfl, (Ab BK179.out 7).trans rfl, (Ab BK174.out 0).trans rfl, (Ab BK174.out 1).trans rfl, (Ab BK174.out 2).trans rfl, (Ab BK174.out 3).trans rfl, (Ab BK174.out 4).trans rfl, (Ab BK174.out 5).trans rfl, (Ab BK174.out 6).trans rfl, (Ab BK174.out 7).trans rfl, (Ab BK174.out 8).trans rfl⟩ (fun hHeld => ?_)
 clear hK K
 refine norm_ (a' := ?_) ?_ ?_
 rotate_left
 ·(
 show Act.put _ (some 51) _ = _
 simp only [Act.put, List.setIfInBounds_toArray, List.set_cons_zero, List.set_cons_succ, i64_w, i32_w]
 rfl)
 refine pu_ 8 (some 52) (bl_ 22 525311) ?_
 refine pu_ 10 (some 54) (bl_ 22 526335) ?_
 refine pu_ 12 (some 56) (bl_ 22 530431) ?_
 refine pu_ 15 (some 59) (bl_ 22 563199) ?_
 refine ta_ 11 (some 55) (bl_ 22 565247) hHeld ?_
 refine ta_ 13 (some 57) (bl_ 22 573439) hHeld ?_
 refine ta_ 16 (some 60) (bl_ 22 638975) hHeld ?_
 refine one_ (i := 14) (N := some 58) #[true, true, true, true, true, true, true, true, true, true, true, true, true, true, true, true, true, false, false, true, false, false] rfl rfl (one_of HT_.out (by kernel_rfl)) (by decide) (fun K hK => ?_)
 refine gs_ Try.func76 #[.int .i64 a1_2] ?_
 with_reducible refine (Cw.calls a1_2 t181 _ A38.out).mono ?_
 rintro e w' ⟨rfl, ⟨nd, rfl⟩⟩
 refine ⟨_, rfl, ?_⟩
 refine hK.out _ _ ⟨(Ab BK179.out 0).trans rfl, (Ab BK179.out 1).trans rfl, (Ab BK179.out 2).trans rfl, (Ab BK179.out 3).trans rfl, (Ab BK179.out 4).trans rfl, (Ab BK179.out 5).trans rfl, (Ab BK179.out 6).trans rfl, (Ab BK179.out 7).trans rfl, (Ab BK174.out 0).trans rfl, (Ab BK174.out 1).trans rfl, (Ab BK174.out 2).trans rfl, (Ab BK174.out 3).trans rfl, (Ab BK174.out 4).trans rfl, (Ab BK174.out 5).trans rfl, (Ab BK174.out 6).trans rfl, (Ab BK174.out 7).trans rfl, (Ab BK174.out 8).trans rfl⟩ (fun hHeld => ?_)
 clear hK K
 refine norm_ (a' := ?_) ?_ ?_
 rotate_left
 ·(
 show Act.put _ (some 58) _ = _
 simp only [Act.put, List.setIfInBounds_toArray, List.set_cons_zero, List.set_cons_succ, i64_w, i32_w]
 rfl)
 refine one_ (i := 17) (N := some 61) #[true, true, true, true, true, true, true, true, true, true, true, true, true, true, true, true, true, true, false, true, false, false] rfl rfl (one_of HT_.out (by kernel_rfl)) (by decide) (fun K hK => ?_)
 refine gs_ Try.func75 #[.agg #[.int .i64 ((Au l0_1 t176).f0), .int .i64 ((Au l0_1 t176).f1), .bool ((Au l0_1 t176).f2.f0), .int .i64 ((Au l0_1 t176).f2.f1), .string ((Au l0_1 t176).f2.f2), .bool ((Au l0_1 t176).f3.f0), .int .i64 ((Au l0_1 t176).f3.f1), .string ((Au l0_1 t176).f3.f2)], .int .i64 t181, .agg #[.bool a1_3, .int .i64 a1_4, .string a1_5]] ?_
 with_reducible refine (Cr.calls k ((Au l0_1 t176).f0) ((Au l0_1 t176).f1) ((Au l0_1 t176).f2.f0) ((Au l0_1 t176).f2.f1) ((Au l0_1 t176).f2.f2) ((Au l0_1 t176).f3.f0) ((Au l0_1 t176).f3.f1) ((Au l0_1 t176).f3.f2) t181 a1_3 a1_4 a1_5 t182 _ A39.out).mono ?_
 rintro e w60 ⟨rfl, hb⟩
 refine ⟨_, rfl, ?_⟩
 replace BK173 := bk_ BK173 hb; replace BK174 := bk_ BK174 hb; replace BK175 := bk_ BK175 hb; replace BK179 := bk_ BK179 hb; replace HB := bs_ HB hb
 (try clear hb)
 refine hK.out _ _ ⟨(Ab BK179.out 0).trans rfl, (Ab BK179.out 1).trans rfl, (Ab BK179.out 2).trans rfl, (Ab BK179.out 3).trans rfl, (Ab BK179.out 4).trans rfl, (Ab BK179.out 5).trans rfl, (Ab BK179.out 6).trans rfl, (Ab BK179.out 7).trans rfl, (Ab BK174.out 0).trans rfl, (Ab BK174.out 1).trans rfl, (Ab BK174.out 2).trans rfl, (Ab BK174.out 3).trans rfl, (Ab BK174.out 4).trans rfl, (Ab BK174.out 5).trans rfl, (Ab BK174.out 6).trans rfl, (Ab BK174.out 7).trans rfl, (Ab BK174.out 8).trans rfl⟩ (fun hHeld => ?_)
 clear hK K
 refine norm_ (a' := ?_) ?_ ?_
 rotate_left
 ·(
 show Act.put _ (some 61) _ = _
 simp only [Act.put, List.setIfInBounds_toArray, List.set_cons_zero, List.set_cons_succ, i64_w, i32_w]
 rfl)
 refine pu_ 18 (some 62) (bl_ 22 1048575) ?_
 refine pu_ 20 (some 64) (bl_ 22 2097151) ?_
 refine one_ (i := 21) (N := none) #[true, true, true, true, true, true, true, true, true, true, true, true, true, true, true, true, true, true, true, true, true, true] rfl rfl (one_of HT_.out (by kernel_rfl)) (by decide) (fun K hK => ?_)
 have hs61 : w60.cell? ⟨gb175, 0, none⟩ = some (.bool false) := (Ab BK175.out 0).trans rfl
 have hfs61 := Bm BK175.out 0
 have hns61_0 := NB173_175.out
 have hns61_1 := NB174_175.out
 have hns61_3 := NB179_175.out
 have hms61_0 := NB175_173.out
 have hms61_1 := NB175_174.out
 have hms61_3 := NB175_179.out
 have hs62 : w60.cell? ⟨gb175, 1, none⟩ = some (.bool false) := (Ab BK175.out 1).trans rfl
 have hfs62 := Bm BK175.out 1
 have hns62_0 := NB173_175.out
 have hns62_1 := NB174_175.out
 have hns62_3 := NB179_175.out
 have hms62_0 := NB175_173.out
 have hms62_1 := NB175_174.out
 have hms62_3 := NB175_179.out
 have hs63 : w60.cell? ⟨gb175, 2, none⟩ = some (.bool false) := (Ab BK175.out 2).trans rfl
 have hfs63 := Bm BK175.out 2
 have hns63_0 := NB173_175.out
 have hns63_1 := NB174_175.out
 have hns63_3 := NB179_175.out
 have hms63_0 := NB175_173.out
 have hms63_1 := NB175_174.out
 have hms63_3 := NB175_179.out
 refine skip_ (w1 := ?_) (by rfl) rfl ?_ ?_
 rotate_left
 ·(
 go_simp
 rfl)
 refine hK.out _ _ ⟨(cf3_ NB179_175 (hHeld.1)), (cf3_ NB179_175 (hHeld.2.1)), (cf3_ NB179_175 (hHeld.2.2.1)), (cf3_ NB179_175 (hHeld.2.2.2.1)), (cf3_ NB179_175 (hHeld.2.2.2.2.1)), (cf3_ NB179_175 (hHeld.2.2.2.2.2.1)), (cf3_ NB179_175 (hHeld.2.2.2.2.2.2.1)), (cf3_ NB179_175 (hHeld.2.2.2.2.2.2.2.1)), (cf3_ NB174_175 (hHeld.2.2.2.2.2.2.2.2.1)), (cf3_ NB174_175 (hHeld.2.2.2.2.2.2.2.2.2.1)), (cf3_ NB174_175 (hHeld.2.2.2.2.2.2.2.2.2.2.1)), (cf3_ NB174_175 (hHeld.2.2.2.2.2.2.2.2.2.2.2.1)), (cf3_ NB174_175 (hHeld.2.2.2.2.2.2.2.2.2.2.2.2.1)), (cf3_ NB174_175 (hHeld.2.2.2.2.2.2.2.2.2.2.2.2.2.1)), (cf3_ NB174_175 (hHeld.2.2.2.2.2.2.2.2.2.2.2.2.2.2.1)), (cf3_ NB174_175 (hHeld.2.2.2.2.2.2.2.2.2.2.2.2.2.2.2.1)), (cf3_ NB174_175 (hHeld.2.2.2.2.2.2.2.2.2.2.2.2.2.2.2.2))⟩ (fun hHeld => ?_)
 clear hK K
 refine done_ (done_of HT_.out (by kernel_rfl)) ?_
 try go_wp2
 refine bodyPost_ret (results_cell_row rfl _ _ gb175 35 #[.bool t180, .bool t182, .bool (decide (((Au l0_1 t176).f1) > 0))] (0, 0) _ rfl (by (with_reducible repeat (first | refine Ag ?_ _ | refine Af ?_ | refine Ae ?_ _)); apply Cf; (with_reducible repeat (first | refine Ag ?_ _ | refine Af ?_ | refine Ae ?_ _)); exact BK175.out) Try.underlying35 rfl (by kernel_rfl)) rfl ?_
 exact en_ HB)
 ·(
 rw [if_neg c36] at H
 have c36b0 : decide (((Au l0_1 t176).f1) < ((Au l0_1 t176).f0)) = false := decide_eq_false c36
 clear c36
 simp only [Option.some.injEq, Prod.mk.injEq] at H
 obtain ⟨rfl, rfl, rfl⟩ := H
 obtain ⟨C81_0, C81_1, C81_2, C81_3, C81_4, C81_5, C81_6, C81_7, C81_8⟩ := cz9_ BK174.out
 obtain ⟨F81_0, F81_1, F81_2, F81_3, F81_4, F81_5, F81_6, F81_7, F81_8⟩ := fz9_ BK174.out
 try go_wp2
 replace BK173 := Aa.mk (Af BK173.out); replace BK174 := Aa.mk (Af BK174.out); replace BK175 := Aa.mk (Af BK175.out); replace BK179 := Aa.mk (Af BK179.out); replace HB := Aa.mk (Aj HB.out)
 refine start_ (n := 22) (S := fun w' => True) (ds := []) #[false, false, false, false, false, false, false, false, false, false, false, false, false, false, false, false, false, false, false, false, false, false] (by kernel_rfl) rfl rfl trivial (fun hHeld => ?_); refine with_tabW Bh.tab10 Bh.bits10 (fun HT_ HW_ => ?_)
 generalize w32.drew = w82 at BK173 BK174 BK175 BK179 HB hHeld ⊢
 refine pu_ 0 (some 44) (bl_ 22 1) ?_
 refine pu_ 1 (some 45) (bl_ 22 3) ?_
 refine pure_ (i := 2) (N := some 46) (v := undef) (a' := ?_) #[true, true, true, false, false, false, false, false, false, false, false, false, false, false, false, false, false, false, false, false, false, false] rfl rfl (any_of HT_.out (by kernel_rfl)) (fun _ _ _ h => h) (Or.inr ⟨by rfl, rfl⟩) ?_ ?_
 rotate_left
 ·(
 simp only [Act.put, List.setIfInBounds_toArray, List.set_cons_zero, List.set_cons_succ, i64_w, i32_w]
 rfl)
 refine pure_ (i := 3) (N := some 47) (v := undef) (a' := ?_) #[true, true, true, true, false, false, false, false, false, false, false, false, false, false, false, false, false, false, false, false, false, false] rfl rfl (any_of HT_.out (by kernel_rfl)) (fun _ _ _ h => h) (Or.inr ⟨by rfl, rfl⟩) ?_ ?_
 rotate_left
 ·(
 simp only [Act.put, List.setIfInBounds_toArray, List.set_cons_zero, List.set_cons_succ, i64_w, i32_w]
 rfl)
 refine pure_ (i := 4) (N := some 48) (v := undef) (a' := ?_) #[true, true, true, true, true, false, false, false, false, false, false, false, false, false, false, false, false, false, false, false, false, false] rfl rfl (any_of HT_.out (by kernel_rfl)) (fun _ _ _ h => h) (Or.inr ⟨by rfl, rfl⟩) ?_ ?_
 rotate_left
 ·(
 simp only [Act.put, List.setIfInBounds_toArray, List.set_cons_zero, List.set_cons_succ, i64_w, i32_w]
 rfl)
 refine pure_ (i := 5) (N := some 49) (v := undef) (a' := ?_) #[true, true, true, true, true, true, false, false, false, false, false, false, false, false, false, false, false, false, false, false, false, false] rfl rfl (any_of HT_.out (by kernel_rfl)) (fun _ _ _ h => h) (Or.inr ⟨by rfl, rfl⟩) ?_ ?_
 rotate_left
 ·(
 simp only [Act.put, List.setIfInBounds_toArray, List.set_cons_zero, List.set_cons_succ, i64_w, i32_w]
 rfl)
 refine pure_ (i := 6) (N := some 50) (v := undef) (a' := ?_) #[true, true, true, true, true, true, true, false, false, false, false, false, false, false, false, false, false, false, false, false, false, false] rfl rfl (any_of HT_.out (by kernel_rfl)) (fun _ _ _ h => h) (Or.inr ⟨by rfl, rfl⟩) ?_ ?_
 rotate_left
 ·(
 simp only [Act.put, List.setIfInBounds_toArray, List.set_cons_zero, List.set_cons_succ, i64_w, i32_w]
 rfl)
 refine pure_ (i := 7) (N := some 51) (v := undef) (a' := ?_) #[true, true, true, true, true, true, true, true, false, false, false, false, false, false, false, false, false, false, false, false, false, false] rfl rfl (any_of HT_.out (by kernel_rfl)) (fun _ _ _ h => h) (Or.inr ⟨by rfl, rfl⟩) ?_ ?_
 rotate_left
 ·(
 simp only [Act.put, List.setIfInBounds_toArray, List.set_cons_zero, List.set_cons_succ, i64_w, i32_w]
 rfl)
 refine pu_ 8 (some 52) (bl_ 22 511) ?_
 refine pu_ 9 (some 53) (bl_ 22 1023) ?_
 refine pu_ 10 (some 54) (bl_ 22 2047) ?_
 refine pure_ (i := 11) (N := some 55) (v := undef) (a' := ?_) #[true, true, true, true, true, true, true, true, true, true, true, true, false, false, false, false, false, false, false, false, false, false] rfl rfl (any_of HT_.out (by kernel_rfl)) (fun _ _ _ h => h) (Or.inr ⟨by rfl, rfl⟩) ?_ ?_
 rotate_left
 ·(
 simp only [Act.put, List.setIfInBounds_toArray, List.set_cons_zero, List.set_cons_succ, i64_w, i32_w]
 rfl)
 refine pure_ (i := 12) (N := some 56) (v := undef) (a' := ?_) #[true, true, true, true, true, true, true, true, true, true, true, true, true, false, false, false, false, false, false, false, false, false] rfl rfl (any_of HT_.out (by kernel_rfl)) (fun _ _ _ h => h) (Or.inr ⟨by rfl, rfl⟩) ?_ ?_
 rotate_left
 ·(
 simp only [Act.put, List.setIfInBounds_toArray, List.set_cons_zero, List.set_cons_succ, i64_w, i32_w]
 rfl)
 refine pure_ (i := 13) (N := some 57) (v := undef) (a' := ?_) #[true, true, true, true, true, true, true, true, true, true, true, true, true, true, false, false, false, false, false, false, false, false] rfl rfl (any_of HT_.out (by kernel_rfl)) (fun _ _ _ h => h) (Or.inr ⟨by rfl, rfl⟩) ?_ ?_
 rotate_left
 ·(
 simp only [Act.put, List.setIfInBounds_toArray, List.set_cons_zero, List.set_cons_succ, i64_w, i32_w]
 rfl)
 refine pure_ (i := 14) (N := some 58) (v := undef) (a' := ?_) #[true, true, true, true, true, true, true, true, true, true, true, true, true, true, true, false, false, false, false, false, false, false] rfl rfl (any_of HT_.out (by kernel_rfl)) (fun _ _ _ h => h) (Or.inr ⟨by rfl, rfl⟩) ?_ ?_
 rotate_left
 ·(
 simp only [Act.put, List.setIfInBounds_toArray, List.set_cons_zero, List.set_cons_succ, i64_w, i32_w]
 rfl)
 refine pure_ (i := 15) (N := some 59) (v := undef) (a' := ?_) #[true, true, true, true, true, true, true, true, true, true, true, true, true, true, true, true, false, false, false, false, false, false] rfl rfl (any_of HT_.out (by kernel_rfl)) (fun _ _ _ h => h) (Or.inr ⟨by rfl, rfl⟩) ?_ ?_
 rotate_left
 ·(
 simp only [Act.put, List.setIfInBounds_toArray, List.set_cons_zero, List.set_cons_succ, i64_w, i32_w]
 rfl)
 refine pure_ (i := 16) (N := some 60) (v := undef) (a' := ?_) #[true, true, true, true, true, true, true, true, true, true, true, true, true, true, true, true, true, false, false, false, false, false] rfl rfl (any_of HT_.out (by kernel_rfl)) (fun _ _ _ h => h) (Or.inr ⟨by rfl, rfl⟩) ?_ ?_
 rotate_left
 ·(
 simp only [Act.put, List.setIfInBounds_toArray, List.set_cons_zero, List.set_cons_succ, i64_w, i32_w]
 rfl)
 refine pure_ (i := 17) (N := some 61) (v := undef) (a' := ?_) #[true, true, true, true, true, true, true, true, true, true, true, true, true, true, true, true, true, true, false, false, false, false] rfl rfl (any_of HT_.out (by kernel_rfl)) (fun _ _ _ h => h) (Or.inr ⟨by rfl, rfl⟩) ?_ ?_
 rotate_left
 ·(
 simp only [Act.put, List.setIfInBounds_toArray, List.set_cons_zero, List.set_cons_succ, i64_w, i32_w]
 rfl)
 refine pu_ 18 (some 62) (bl_ 22 524287) ?_
 refine pu_ 19 (some 63) (bl_ 22 1048575) ?_
 refine pu_ 20 (some 64) (bl_ 22 2097151) ?_
 refine one_ (i := 21) (N := none) #[true, true, true, true, true, true, true, true, true, true, true, true, true, true, true, true, true, true, true, true, true, true] rfl rfl (one_of HT_.out (by kernel_rfl)) (by decide) (fun K hK => ?_)
 have hs83 : w82.cell? ⟨gb175, 0, none⟩ = some (.bool false) := (Ab BK175.out 0).trans rfl
 have hfs83 := Bm BK175.out 0
 have hns83_0 := NB173_175.out
 have hns83_1 := NB174_175.out
 have hns83_3 := NB179_175.out
 have hms83_0 := NB175_173.out
 have hms83_1 := NB175_174.out
 have hms83_3 := NB175_179.out
 have hs84 : w82.cell? ⟨gb175, 1, none⟩ = some (.bool false) := (Ab BK175.out 1).trans rfl
 have hfs84 := Bm BK175.out 1
 have hns84_0 := NB173_175.out
 have hns84_1 := NB174_175.out
 have hns84_3 := NB179_175.out
 have hms84_0 := NB175_173.out
 have hms84_1 := NB175_174.out
 have hms84_3 := NB175_179.out
 have hs85 : w82.cell? ⟨gb175, 2, none⟩ = some (.bool false) := (Ab BK175.out 2).trans rfl
 have hfs85 := Bm BK175.out 2
 have hns85_0 := NB173_175.out
 have hns85_1 := NB174_175.out
 have hns85_3 := NB179_175.out
 have hms85_0 := NB175_173.out
 have hms85_1 := NB175_174.out
 have hms85_3 := NB175_179.out
 refine skip_ (w1 := ?_) (by rfl) rfl ?_ ?_
 rotate_left
 ·(
 go_simp
 rfl)
 refine hK.out _ _ trivial (fun hHeld => ?_)
 clear hK K
 refine done_ (done_of HT_.out (by kernel_rfl)) ?_
 try go_wp2
 refine bodyPost_ret (results_cell_row rfl _ _ gb175 35 #[.bool false, .bool false, .bool (decide (((Au l0_1 t176).f1) > 0))] (0, 0) _ rfl (by (with_reducible repeat (first | refine Ag ?_ _ | refine Af ?_ | refine Ae ?_ _)); apply Cf; (with_reducible repeat (first | refine Ag ?_ _ | refine Af ?_ | refine Ae ?_ _)); exact BK175.out) Try.underlying35 rfl (by kernel_rfl)) rfl ?_
 exact en_ HB))
 ·(
 rw [if_neg c35] at H
 have c35b0 : (a1_0 == 2) = false := Dj c35
 have c35b1 : (a1_0 != 2) = true := Dm c35
 simp only [Option.some.injEq, Prod.mk.injEq] at H
 obtain ⟨rfl, rfl, rfl⟩ := H
 obtain ⟨C103_0, C103_1, C103_2, C103_3, C103_4, C103_5, C103_6, C103_7, C103_8⟩ := cz9_ BK174.out
 obtain ⟨F103_0, F103_1, F103_2, F103_3, F103_4, F103_5, F103_6, F103_7, F103_8⟩ := fz9_ BK174.out
 obtain ⟨C104_0, C104_1, C104_2⟩ := cz3_ BK175.out
 obtain ⟨F104_0, F104_1, F104_2⟩ := fz3_ BK175.out
 try go_wp2
 refine bodyPost_ret (results_cell_row rfl _ _ gb175 35 #[.bool (decide (((Au l0_1 t176).f0) > ((Au l0_1 t176).f1))), .bool (decide (((Au l0_1 t176).f0) > ((Au l0_1 t176).f1))), .bool (decide (((Au l0_1 t176).f1) > 0))] (0, 0) _ rfl (by (with_reducible repeat (first | refine Ag ?_ _ | refine Af ?_ | refine Ae ?_ _)); apply Cf; (with_reducible repeat (first | refine Ag ?_ _ | refine Af ?_ | refine Ae ?_ _)); exact BK175.out) Try.underlying35 rfl (by kernel_rfl)) rfl ?_
 exact en_ HB)))
 ·(
 rw [if_neg c14] at H
 exact absurd H (by simp)))
 ·(
 rw [if_neg c13] at H
 exact absurd H (by simp)))
end Go.Proofs.Ytdedmhmomoejkaa.X
