/- Words and walks for X.pruneSafe_holds, part 3 of the texts that a program of this session laid together. -/
import Derived.Test.YtdedmhmomoejkaaS1
import Derived.Test.YtdedmhmomoejkaaS2
namespace Go.Proofs.Ytdedmhmomoejkaa.X
set_option maxHeartbeats 8000000
set_option maxRecDepth 100000
open Go.RowKit Go.Proofs.YtdedmhmomoejkaaW.PrintWords Go.Proofs.YtdedmhmomoejkaaW.PrintLast Go.Proofs.YtdedmhmomoejkaaW.PrintMore
attribute [local go_sem] max2_int max_two
set_option linter.unusedVariables false
set_option linter.unusedSimpArgs false
def Dd.f (a0_0 : Bool) (a0_1 : Int) (a0_2 : ByteArray) : Option (Int) := if a0_0 = true then (some 0) else (some 1)
theorem Dd.calls (a0_0 : Bool) (a0_1 : Int) (a0_2 : ByteArray) (r : Int) (w : World) (h : Dd.f a0_0 a0_1 a0_2 = some r) :
  Calls Try.prog 72 #[.agg #[.bool a0_0, .int .i64 a0_1, .string a0_2]] w fun e w' => e = .returned (.int .i64 r) ∧ Below w.heap.size w w' := by
 have hu24 := Try.underlying24
 have HB := Aa.mk (Below.refl w.heap.size w)
 have H : (if a0_0 = true then (some 0) else (some 1)) = some r := h
 clear h
 by_cases c2 : a0_0 = true
 ·(
 subst c2
 have H1 : (some 0) = some r := by rw [if_pos rfl] at H; exact H
 clear H
 have H := H1
 clear H1
 obtain rfl := Dp H
 go_enter Try.func72, Try.ntmps72
 go_wp2_with (first | (refine bx_ (N := 1) (cs := #[.bool true, .int .i64 a0_1, .string a0_2]) (t := 24) ?_; intro gb135 hg w3 hbox hb; have BK135 := Aa.mk (hbox); have GW135 := ge_ HB hg; have GE135 := ge_ HB hg; replace HB := bs_ HB hb; clear hb hbox hg; obtain ⟨C4_0, C4_1, C4_2⟩ := zc3_ BK135.out; obtain ⟨F4_0, F4_1, F4_2⟩ := zf3_ BK135.out))
 go_ret
 exact en_ HB)
 ·(
 replace c2 := Dq c2
 subst c2
 have H1 : (some 1) = some r := by rw [if_neg (show ¬ (false = true) by decide)] at H; exact H
 clear H
 have H := H1
 clear H1
 obtain rfl := Dp H
 go_enter Try.func72, Try.ntmps72
 go_wp2_with (first | (refine bx_ (N := 1) (cs := #[.bool false, .int .i64 a0_1, .string a0_2]) (t := 24) ?_; intro gb135 hg w5 hbox hb; have BK135 := Aa.mk (hbox); have GW135 := ge_ HB hg; have GE135 := ge_ HB hg; replace HB := bs_ HB hb; clear hb hbox hg; obtain ⟨C6_0, C6_1, C6_2⟩ := zc3_ BK135.out; obtain ⟨F6_0, F6_1, F6_2⟩ := zf3_ BK135.out))
 go_ret
 exact en_ HB)
def Ce.f (a0 : Int) : Option (Bool) := some (a0 != a0)
theorem Ce.calls (a0 : Int) (r : Bool) (w : World) (h : Ce.f a0 = some r) :
  Calls Try.prog 95 #[.int .i64 a0] w fun e w' => e = .returned (.bool r) ∧ Bp w w' := by
 have H : (some (a0 != a0)) = some r := h
 clear h
 obtain rfl := Dp H
 go_enter Try.func95, Try.ntmps95
 go_wp2
 go_ret
 exact ⟨by first | rfl | (simp; done) | (simp [*]; done), by repeat (first | exact Bp.refl _ | apply Bp.step)⟩
def Cn.f (a0 : Int) (a1 : Int) : Option (Int) := (Ce.f a0).bind fun t136 => ((Ce.f a1).bind fun t137 => (if t136 = true then (if t137 = true then (some 0) else (some (-1))) else (if t137 = true then (some 1) else (if a0 < a1 then (some (-1)) else (if a0 > a1 then (some 1) else (some 0))))))
theorem Cn.calls (a0 : Int) (a1 : Int) (r : Int) (w : World) (h : Cn.f a0 a1 = some r) :
  Calls Try.prog 73 #[.int .i64 a0, .int .i64 a1] w fun e w' => e = .returned (.int .i64 r) ∧ Bp w w' := by
 have H : ((Ce.f a0).bind fun t136 => ((Ce.f a1).bind fun t137 => (if t136 = true then (if t137 = true then (some 0) else (some (-1))) else (if t137 = true then (some 1) else (if a0 < a1 then (some (-1)) else (if a0 > a1 then (some 1) else (some 0))))))) = some r := h
 clear h
 replace H := Dn H
 obtain ⟨t136, A30, H⟩ := H
 replace H : ((Ce.f a1).bind fun t137 => (if t136 = true then (if t137 = true then (some 0) else (some (-1))) else (if t137 = true then (some 1) else (if a0 < a1 then (some (-1)) else (if a0 > a1 then (some 1) else (some 0)))))) = some r := H
 have A3 := Aa.mk A30
 clear A30
 replace H := Dn H
 obtain ⟨t137, A40, H⟩ := H
 replace H : (if t136 = true then (if t137 = true then (some 0) else (some (-1))) else (if t137 = true then (some 1) else (if a0 < a1 then (some (-1)) else (if a0 > a1 then (some 1) else (some 0))))) = some r := H
 have A4 := Aa.mk A40
 clear A40
 by_cases c5 : t136 = true
 ·(
 subst c5
 have H1 : (if t137 = true then (some 0) else (some (-1))) = some r := by rw [if_pos rfl] at H; exact H
 clear H
 have H := H1
 clear H1
 by_cases c6 : t137 = true
 ·(
 subst c6
 have H1 : (some 0) = some r := by rw [if_pos rfl] at H; exact H
 clear H
 have H := H1
 clear H1
 obtain rfl := Dp H
 go_enter Try.func73, Try.ntmps73
 go_wp2_with (first | ((with_reducible refine Aw (f := 95) rfl ?_); refine gl_ (some 8) rfl Try.func95 #[.int .i64 a0] ?_; (with_reducible refine (Ce.calls a0 true _ A3.out).mono ?_); rintro e w' ⟨rfl, ⟨nd, rfl⟩⟩; refine ⟨_, rfl, ?_⟩) | ((with_reducible refine Aw (f := 95) rfl ?_); refine gl_ (some 10) rfl Try.func95 #[.int .i64 a1] ?_; (with_reducible refine (Ce.calls a1 true _ A4.out).mono ?_); rintro e w' ⟨rfl, ⟨nd, rfl⟩⟩; refine ⟨_, rfl, ?_⟩))
 go_ret
 exact ⟨by first | rfl | (simp; done) | (simp [*]; done), by repeat (first | exact Bp.refl _ | apply Bp.step)⟩)
 ·(
 replace c6 := Dq c6
 subst c6
 have H1 : (some (-1)) = some r := by rw [if_neg (show ¬ (false = true) by decide)] at H; exact H
 clear H
 have H := H1
 clear H1
 obtain rfl := Dp H
 go_enter Try.func73, Try.ntmps73
 go_wp2_with (first | ((with_reducible refine Aw (f := 95) rfl ?_); refine gl_ (some 8) rfl Try.func95 #[.int .i64 a0] ?_; (with_reducible refine (Ce.calls a0 true _ A3.out).mono ?_); rintro e w' ⟨rfl, ⟨nd, rfl⟩⟩; refine ⟨_, rfl, ?_⟩) | ((with_reducible refine Aw (f := 95) rfl ?_); refine gl_ (some 10) rfl Try.func95 #[.int .i64 a1] ?_; (with_reducible refine (Ce.calls a1 false _ A4.out).mono ?_); rintro e w' ⟨rfl, ⟨nd, rfl⟩⟩; refine ⟨_, rfl, ?_⟩))
 go_ret
 exact ⟨by first | rfl | (simp; done) | (simp [*]; done), by repeat (first | exact Bp.refl _ | apply Bp.step)⟩))
 ·(
 replace c5 := Dq c5
 subst c5
 have H1 : (if t137 = true then (some 1) else (if a0 < a1 then (some (-1)) else (if a0 > a1 then (some 1) else (some 0)))) = some r := by rw [if_neg (show ¬ (false = true) by decide)] at H; exact H
 clear H
 have H := H1
 clear H1
 by_cases c7 : t137 = true
 ·(
 subst c7
 have H1 : (some 1) = some r := by rw [if_pos rfl] at H; exact H
 clear H
 have H := H1
 clear H1
 obtain rfl := Dp H
 go_enter Try.func73, Try.ntmps73
 go_wp2_with (first | ((with_reducible refine Aw (f := 95) rfl ?_); refine gl_ (some 8) rfl Try.func95 #[.int .i64 a0] ?_; (with_reducible refine (Ce.calls a0 false _ A3.out).mono ?_); rintro e w' ⟨rfl, ⟨nd, rfl⟩⟩; refine ⟨_, rfl, ?_⟩) | ((with_reducible refine Aw (f := 95) rfl ?_); refine gl_ (some 10) rfl Try.func95 #[.int .i64 a1] ?_; (with_reducible refine (Ce.calls a1 true _ A4.out).mono ?_); rintro e w' ⟨rfl, ⟨nd, rfl⟩⟩; refine ⟨_, rfl, ?_⟩))
 go_ret
 exact ⟨by first | rfl | (simp; done) | (simp [*]; done), by repeat (first | exact Bp.refl _ | apply Bp.step)⟩)
 ·(
 replace c7 := Dq c7
 subst c7
 have H1 : (if a0 < a1 then (some (-1)) else (if a0 > a1 then (some 1) else (some 0))) = some r := by rw [if_neg (show ¬ (false = true) by decide)] at H; exact H
 clear H
 have H := H1
 clear H1
 by_cases c8 : a0 < a1
 rotate_left
 focus(
 rw [if_neg c8] at H
 have c8b0 : decide (a0 < a1) = false := decide_eq_false c8
 clear c8
 by_cases c9 : a0 > a1
 rotate_left
 focus(
 rw [if_neg c9] at H
 have c9b0 : decide (a1 < a0) = false := decide_eq_false c9)
 rotate_right
 focus(
 rw [if_pos c9] at H
 have c9b0 : decide (a1 < a0) = true := decide_eq_true c9)
 all_goals clear c9)
 rotate_right
 focus(
 rw [if_pos c8] at H
 have c8b0 : decide (a0 < a1) = true := decide_eq_true c8
 clear c8)
 all_goals(
 obtain rfl := Dp H
 go_enter Try.func73, Try.ntmps73
 go_wp2_with (first | ((with_reducible refine Aw (f := 95) rfl ?_); refine gl_ (some 8) rfl Try.func95 #[.int .i64 a0] ?_; (with_reducible refine (Ce.calls a0 false _ A3.out).mono ?_); rintro e w' ⟨rfl, ⟨nd, rfl⟩⟩; refine ⟨_, rfl, ?_⟩) | ((with_reducible refine Aw (f := 95) rfl ?_); refine gl_ (some 10) rfl Try.func95 #[.int .i64 a1] ?_; (with_reducible refine (Ce.calls a1 false _ A4.out).mono ?_); rintro e w' ⟨rfl, ⟨nd, rfl⟩⟩; refine ⟨_, rfl, ?_⟩))
 go_ret
 exact ⟨by first | rfl | (simp; done) | (simp [*]; done), by repeat (first | exact Bp.refl _ | apply Bp.step)⟩)))
def Bx.f (a0 : ByteArray) : Option (Bool) := some (a0.toList != a0.toList)
theorem Bx.calls (a0 : ByteArray) (r : Bool) (w : World) (h : Bx.f a0 = some r) :
  Calls Try.prog 96 #[.string a0] w fun e w' => e = .returned (.bool r) ∧ Bp w w' := by
 have H : (some (a0.toList != a0.toList)) = some r := h
 clear h
 obtain rfl := Dp H
 go_enter Try.func96, Try.ntmps96
 go_wp2
 go_ret
 exact ⟨by first | rfl | (simp; done) | (simp [*]; done), by repeat (first | exact Bp.refl _ | apply Bp.step)⟩
def Cj.f (a0 : ByteArray) (a1 : ByteArray) : Option (Int) := (Bx.f a0).bind fun t138 => ((Bx.f a1).bind fun t139 => (if t138 = true then (if t139 = true then (some 0) else (some (-1))) else (if t139 = true then (some 1) else (if (Op.bytesLess a0.toList a1.toList) = true then (some (-1)) else (if a0.toList = a1.toList then (some 0) else (some 1))))))
theorem Cj.calls (a0 : ByteArray) (a1 : ByteArray) (r : Int) (w : World) (h : Cj.f a0 a1 = some r) :
  Calls Try.prog 74 #[.string a0, .string a1] w fun e w' => e = .returned (.int .i64 r) ∧ Bp w w' := by
 have H : ((Bx.f a0).bind fun t138 => ((Bx.f a1).bind fun t139 => (if t138 = true then (if t139 = true then (some 0) else (some (-1))) else (if t139 = true then (some 1) else (if (Op.bytesLess a0.toList a1.toList) = true then (some (-1)) else (if a0.toList = a1.toList then (some 0) else (some 1))))))) = some r := h
 clear h
 replace H := Dn H
 obtain ⟨t138, A30, H⟩ := H
 replace H : ((Bx.f a1).bind fun t139 => (if t138 = true then (if t139 = true then (some 0) else (some (-1))) else (if t139 = true then (some 1) else (if (Op.bytesLess a0.toList a1.toList) = true then (some (-1)) else (if a0.toList = a1.toList then (some 0) else (some 1)))))) = some r := H
 have A3 := Aa.mk A30
 clear A30
 replace H := Dn H
 obtain ⟨t139, A40, H⟩ := H
 replace H : (if t138 = true then (if t139 = true then (some 0) else (some (-1))) else (if t139 = true then (some 1) else (if (Op.bytesLess a0.toList a1.toList) = true then (some (-1)) else (if a0.toList = a1.toList then (some 0) else (some 1))))) = some r := H
 have A4 := Aa.mk A40
 clear A40
 by_cases c5 : t138 = true
 ·(
 subst c5
 have H1 : (if t139 = true then (some 0) else (some (-1))) = some r := by rw [if_pos rfl] at H; exact H
 clear H
 have H := H1
 clear H1
 by_cases c6 : t139 = true
 ·(
 subst c6
 have H1 : (some 0) = some r := by rw [if_pos rfl] at H; exact H
 clear H
 have H := H1
 clear H1
 obtain rfl := Dp H
 go_enter Try.func74, Try.ntmps74
 go_wp2_with (first | ((with_reducible refine Aw (f := 96) rfl ?_); refine gl_ (some 8) rfl Try.func96 #[.string a0] ?_; (with_reducible refine (Bx.calls a0 true _ A3.out).mono ?_); rintro e w' ⟨rfl, ⟨nd, rfl⟩⟩; refine ⟨_, rfl, ?_⟩) | ((with_reducible refine Aw (f := 96) rfl ?_); refine gl_ (some 10) rfl Try.func96 #[.string a1] ?_; (with_reducible refine (Bx.calls a1 true _ A4.out).mono ?_); rintro e w' ⟨rfl, ⟨nd, rfl⟩⟩; refine ⟨_, rfl, ?_⟩))
 go_ret
 exact ⟨by first | rfl | (simp; done) | (simp [*]; done), by repeat (first | exact Bp.refl _ | apply Bp.step)⟩)
 ·(
 replace c6 := Dq c6
 subst c6
 have H1 : (some (-1)) = some r := by rw [if_neg (show ¬ (false = true) by decide)] at H; exact H
 clear H
 have H := H1
 clear H1
 obtain rfl := Dp H
 go_enter Try.func74, Try.ntmps74
 go_wp2_with (first | ((with_reducible refine Aw (f := 96) rfl ?_); refine gl_ (some 8) rfl Try.func96 #[.string a0] ?_; (with_reducible refine (Bx.calls a0 true _ A3.out).mono ?_); rintro e w' ⟨rfl, ⟨nd, rfl⟩⟩; refine ⟨_, rfl, ?_⟩) | ((with_reducible refine Aw (f := 96) rfl ?_); refine gl_ (some 10) rfl Try.func96 #[.string a1] ?_; (with_reducible refine (Bx.calls a1 false _ A4.out).mono ?_); rintro e w' ⟨rfl, ⟨nd, rfl⟩⟩; refine ⟨_, rfl, ?_⟩))
 go_ret
 exact ⟨by first | rfl | (simp; done) | (simp [*]; done), by repeat (first | exact Bp.refl _ | apply Bp.step)⟩))
 ·(
 replace c5 := Dq c5
 subst c5
 have H1 : (if t139 = true then (some 1) else (if (Op.bytesLess a0.toList a1.toList) = true then (some (-1)) else (if a0.toList = a1.toList then (some 0) else (some 1)))) = some r := by rw [if_neg (show ¬ (false = true) by decide)] at H; exact H
 clear H
 have H := H1
 clear H1
 by_cases c7 : t139 = true
 ·(
 subst c7
 have H1 : (some 1) = some r := by rw [if_pos rfl] at H; exact H
 clear H
 have H := H1
 clear H1
 obtain rfl := Dp H
 go_enter Try.func74, Try.ntmps74
 go_wp2_with (first | ((with_reducible refine Aw (f := 96) rfl ?_); refine gl_ (some 8) rfl Try.func96 #[.string a0] ?_; (with_reducible refine (Bx.calls a0 false _ A3.out).mono ?_); rintro e w' ⟨rfl, ⟨nd, rfl⟩⟩; refine ⟨_, rfl, ?_⟩) | ((with_reducible refine Aw (f := 96) rfl ?_); refine gl_ (some 10) rfl Try.func96 #[.string a1] ?_; (with_reducible refine (Bx.calls a1 true _ A4.out).mono ?_); rintro e w' ⟨rfl, ⟨nd, rfl⟩⟩; refine ⟨_, rfl, ?_⟩))
 go_ret
 exact ⟨by first | rfl | (simp; done) | (simp [*]; done), by repeat (first | exact Bp.refl _ | apply Bp.step)⟩)
 ·(
 replace c7 := Dq c7
 subst c7
 have H1 : (if (Op.bytesLess a0.toList a1.toList) = true then (some (-1)) else (if a0.toList = a1.toList then (some 0) else (some 1))) = some r := by rw [if_neg (show ¬ (false = true) by decide)] at H; exact H
 clear H
 have H := H1
 clear H1
 by_cases c8 : (Op.bytesLess a0.toList a1.toList) = true
 rotate_left
 focus(
 rw [if_neg c8] at H
 have c8b0 : (Op.bytesLess a0.toList a1.toList) = false := by simpa using c8
 clear c8
 by_cases c9 : a0.toList = a1.toList
 rotate_left
 focus(
 rw [if_neg c9] at H
 have c9b0 : (a0.toList == a1.toList) = false := Dj c9
 have c9b1 : (a0.toList != a1.toList) = true := Dm c9)
 rotate_right
 focus(
 rw [if_pos c9] at H
 have c9b0 : (a0.toList == a1.toList) = true := Dl c9
 have c9b1 : (a0.toList != a1.toList) = false := Dk c9
 clear c9))
 rotate_right
 focus(
 rw [if_pos c8] at H
 have c8b0 : (Op.bytesLess a0.toList a1.toList) = true := c8
 clear c8)
 all_goals(
 obtain rfl := Dp H
 go_enter Try.func74, Try.ntmps74
 go_wp2_with (first | ((with_reducible refine Aw (f := 96) rfl ?_); refine gl_ (some 8) rfl Try.func96 #[.string a0] ?_; (with_reducible refine (Bx.calls a0 false _ A3.out).mono ?_); rintro e w' ⟨rfl, ⟨nd, rfl⟩⟩; refine ⟨_, rfl, ?_⟩) | ((with_reducible refine Aw (f := 96) rfl ?_); refine gl_ (some 10) rfl Try.func96 #[.string a1] ?_; (with_reducible refine (Bx.calls a1 false _ A4.out).mono ?_); rintro e w' ⟨rfl, ⟨nd, rfl⟩⟩; refine ⟨_, rfl, ?_⟩))
 go_ret
 exact ⟨by first | rfl | (simp; done) | (simp [*]; done), by repeat (first | exact Bp.refl _ | apply Bp.step)⟩)))
def Bl.f (k : Nat) (a0_0 : Bool) (a0_1 : Int) (a0_2 : ByteArray) (a1_0 : Bool) (a1_1 : Int) (a1_2 : ByteArray) : Option (Int) := (Dd.f a0_0 a0_1 a0_2).bind fun t142 => ((Dd.f a1_0 a1_1 a1_2).bind fun t143 => ((Cu.f t142 t143).bind fun t144 => ((Cn.f a0_1 a1_1).bind fun t145 => ((Cj.f a0_2 a1_2).bind fun t146 => ((Bq.f k (([t144, t145, t146] : List Int))).bind fun t150 => (some t150))))))
theorem Bl.mono : ∀ a0 a1 a2 a3 a4 a5 k, LeO (Bl.f k a0 a1 a2 a3 a4 a5) (Bl.f (k + 1) a0 a1 a2 a3 a4 a5) := by
 intro a0 a1 a2 a3 a4 a5 k
 unfold Bl.f
 repeat' first|(with_reducible first|exact Bq.mono _ _|exact LeO.refl _|exact LeO.none _|refine LeO.ite ?_ ?_|refine LeO.bind ?_ fun _=>?_)|exact Bq.mono _ _|exact LeO.none _|refine LeO.ite ?_ ?_|refine LeO.bind ?_ fun _=>?_
def Bl.T1 : Bool × List (List Nat × List Nat) := (true, [([], []), ([0], [0]), ([], []), ([2, 1], [2]), ([1, 3, 3], [1, 3]), ([], []), ([5], [5]), ([], []), ([7], [7]), ([6, 8, 4], [6, 8]), ([], []), ([10], [10]), ([], []), ([12], [12]), ([11, 13, 9], [11, 13]), ([4, 9, 14], [4, 9, 14]), ([15, 14], [15]), ([16, 16, 0, 1, 2, 3, 4, 5, 6, 7, 8, 9, 10, 11, 12, 13, 14, 15, 16], [16])])
def Bl.B1 : List Nat := [0, 1, 0, 7, 15, 0, 32, 0, 128, 511, 0, 1024, 0, 4096, 16383, 32767, 65535, 131071]
theorem Bl.tab1 : rtab .any (opsOf Try.f50 1) = Bl.T1 := by kernel_rfl
theorem Bl.bits1 : waitsOk Bl.T1.2 Bl.B1 = true := by kernel_rfl
theorem Bl.calls (k : Nat) (a0_0 : Bool) (a0_1 : Int) (a0_2 : ByteArray) (a1_0 : Bool) (a1_1 : Int) (a1_2 : ByteArray) (r : Int) (w : World) (h : Bl.f k a0_0 a0_1 a0_2 a1_0 a1_1 a1_2 = some r) :
  Calls Try.prog 50 #[.agg #[.bool a0_0, .int .i64 a0_1, .string a0_2], .agg #[.bool a1_0, .int .i64 a1_1, .string a1_2]] w fun e w' => e = .returned (.int .i64 r) ∧ Below w.heap.size w w' := by
 have hu24 := Try.underlying24
 have HB := Aa.mk (Below.refl w.heap.size w)
 have H : ((Dd.f a0_0 a0_1 a0_2).bind fun t142 => ((Dd.f a1_0 a1_1 a1_2).bind fun t143 => ((Cu.f t142 t143).bind fun t144 => ((Cn.f a0_1 a1_1).bind fun t145 => ((Cj.f a0_2 a1_2).bind fun t146 => ((Bq.f k (([t144, t145, t146] : List Int))).bind fun t150 => (some t150))))))) = some r := h
 clear h
 replace H := Dn H
 obtain ⟨t142, A30, H⟩ := H
 replace H : ((Dd.f a1_0 a1_1 a1_2).bind fun t143 => ((Cu.f t142 t143).bind fun t144 => ((Cn.f a0_1 a1_1).bind fun t145 => ((Cj.f a0_2 a1_2).bind fun t146 => ((Bq.f k (([t144, t145, t146] : List Int))).bind fun t150 => (some t150)))))) = some r := H
 have A3 := Aa.mk A30
 clear A30
 replace H := Dn H
 obtain ⟨t143, A40, H⟩ := H
 replace H : ((Cu.f t142 t143).bind fun t144 => ((Cn.f a0_1 a1_1).bind fun t145 => ((Cj.f a0_2 a1_2).bind fun t146 => ((Bq.f k (([t144, t145, t146] : List Int))).bind fun t150 => (some t150))))) = some r := H
 have A4 := Aa.mk A40
 clear A40
 replace H := Dn H
 obtain ⟨t144, A50, H⟩ := H
 replace H : ((Cn.f a0_1 a1_1).bind fun t145 => ((Cj.f a0_2 a1_2).bind fun t146 => ((Bq.f k (([t144, t145, t146] : List Int))).bind fun t150 => (some t150)))) = some r := H
 have A5 := Aa.mk A50
 clear A50
 replace H := Dn H
 obtain ⟨t145, A60, H⟩ := H
 replace H : ((Cj.f a0_2 a1_2).bind fun t146 => ((Bq.f k (([t144, t145, t146] : List Int))).bind fun t150 => (some t150))) = some r := H
 have A6 := Aa.mk A60
 clear A60
 replace H := Dn H
 obtain ⟨t146, A70, H⟩ := H
 replace H : ((Bq.f k (([t144, t145, t146] : List Int))).bind fun t150 => (some t150)) = some r := H
 have A7 := Aa.mk A70
 clear A70
 obtain ⟨y147, hy147⟩ : ∃ y_ : List Int, y_ = (([t144, t145, t146] : List Int)) := ⟨_, rfl⟩
 replace H : ((Bq.f k y147).bind fun t150 => (some t150)) = some r := by first | (rw [hy147]; with_reducible exact H) | (have H2_ := (Option.bind_some _ _).symm.trans H; rw [hy147]; with_reducible exact H2_) | (have H2_ := (Option.bind_some _ _).symm.trans H; with_reducible exact H2_) | with_reducible exact H | (rw [hy147]; exact H) | exact H
 have Ny147 := Aa.mk hy147
 clear hy147
 replace H := Dn H
 obtain ⟨t150, A80, H⟩ := H
 replace H : (some t150) = some r := H
 have A8 := Aa.mk A80
 clear A80
 obtain rfl := Dp H
 go_enter Try.func50, Try.ntmps50
 try go_wp2_with (first | (refine bx_ (N := 2) (cs := #[.bool a0_0, .int .i64 a0_1, .string a0_2]) (t := 24) ?_; intro gb140 hg w9 hbox hb; have BK140 := Aa.mk (hbox); have GW140 := ge_ HB hg; have GE140 := ge_ HB hg; replace HB := bs_ HB hb; clear hb hbox hg) | (refine bx_ (N := 3) (cs := #[.bool a1_0, .int .i64 a1_1, .string a1_2]) (t := 24) ?_; intro gb141 hg w10 hbox hb; have BK141 := Aa.mk (hbox); have GW141 := ge_ HB hg; have GE141 := ge_ HB hg; have NB140_141 := lt_ BK140 hg; have NB141_140 := gt_ BK140 hg; replace BK140 := bk_ BK140 hb; replace HB := bs_ HB hb; clear hb hbox hg))
 replace BK140 := Aa.mk (Af BK140.out); replace BK141 := Aa.mk (Af BK141.out); replace HB := Aa.mk (Aj HB.out)
 refine start_ (n := 18) (S := fun w' => w'.cell? ⟨gb140, 0, none⟩ = some (.bool a0_0) ∧ w'.cell? ⟨gb140, 1, none⟩ = some (.int .i64 a0_1) ∧ w'.cell? ⟨gb140, 2, none⟩ = some (.string a0_2) ∧ w'.cell? ⟨gb141, 0, none⟩ = some (.bool a1_0) ∧ w'.cell? ⟨gb141, 1, none⟩ = some (.int .i64 a1_1) ∧ w'.cell? ⟨gb141, 2, none⟩ = some (.string a1_2)) (ds := []) #[false, false, false, false, false, false, false, false, false, false, false, false, false, false, false, false, false, false] (by kernel_rfl) rfl rfl ⟨(Ab BK140.out 0).trans rfl, (Ab BK140.out 1).trans rfl, (Ab BK140.out 2).trans rfl, (Ab BK141.out 0).trans rfl, (Ab BK141.out 1).trans rfl, (Ab BK141.out 2).trans rfl⟩ (fun hHeld => ?_); refine with_tabW Bl.tab1 Bl.bits1 (fun HT_ HW_ => ?_)
 generalize w10.drew = w11 at BK140 BK141 HB hHeld ⊢
 refine pu_ 5 (some 10) (bl_ 18 32) ?_
 refine pu_ 7 (some 12) (bl_ 18 160) ?_
 refine pu_ 10 (some 15) (bl_ 18 1184) ?_
 refine pu_ 12 (some 17) (bl_ 18 5280) ?_
 refine ta_ 0 (some 5) (bl_ 18 5281) hHeld ?_
 refine ta_ 2 (some 7) (bl_ 18 5285) hHeld ?_
 refine ta_ 6 (some 11) (bl_ 18 5349) hHeld ?_
 refine ta_ 8 (some 13) (bl_ 18 5605) hHeld ?_
 refine ta_ 11 (some 16) (bl_ 18 7653) hHeld ?_
 refine ta_ 13 (some 18) (bl_ 18 15845) hHeld ?_
 refine one_ (i := 1) (N := some 6) #[true, true, true, false, false, true, true, true, true, false, true, true, true, true, false, false, false, false] rfl rfl (one_of HT_.out (by kernel_rfl)) (by decide) (fun K hK => ?_)
 refine gs_ Try.func72 #[.agg #[.bool a0_0, .int .i64 a0_1, .string a0_2]] ?_
 with_reducible refine (Dd.calls a0_0 a0_1 a0_2 t142 _ A3.out).mono ?_
 rintro e w12 ⟨rfl, hb⟩
 refine ⟨_, rfl, ?_⟩
 replace BK140 := bk_ BK140 hb; replace BK141 := bk_ BK141 hb; replace HB := bs_ HB hb
 (try clear hb)
 refine hK.out _ _ ⟨(Ab BK140.out 0).trans rfl, (Ab BK140.out 1).trans rfl, (Ab BK140.out 2).trans rfl, (Ab BK141.out 0).trans rfl, (Ab BK141.out 1).trans rfl, (Ab BK141.out 2).trans rfl⟩ (fun hHeld => ?_)
 clear hK K
 refine norm_ (a' := ?_) ?_ ?_
 rotate_left
 ·(
 show Act.put _ (some 6) _ = _
 simp only [Act.put, List.setIfInBounds_toArray, List.set_cons_zero, List.set_cons_succ, i64_w, i32_w]
 rfl)
 refine one_ (i := 3) (N := some 8) #[true, true, true, true, false, true, true, true, true, false, true, true, true, true, false, false, false, false] rfl rfl (one_of HT_.out (by kernel_rfl)) (by decide) (fun K hK => ?_)
 refine gs_ Try.func72 #[.agg #[.bool a1_0, .int .i64 a1_1, .string a1_2]] ?_
 with_reducible refine (Dd.calls a1_0 a1_1 a1_2 t143 _ A4.out).mono ?_
 rintro e w13 ⟨rfl, hb⟩
 refine ⟨_, rfl, ?_⟩
 replace BK140 := bk_ BK140 hb; replace BK141 := bk_ BK141 hb; replace HB := bs_ HB hb
 (try clear hb)
 refine hK.out _ _ ⟨(Ab BK140.out 0).trans rfl, (Ab BK140.out 1).trans rfl, (Ab BK140.out 2).trans rfl, (Ab BK141.out 0).trans rfl, (Ab BK141.out 1).trans rfl, (Ab BK141.out 2).trans rfl⟩ (fun hHeld => ?_)
 clear hK K
 refine norm_ (a' := ?_) ?_ ?_
 rotate_left
 ·(
 show Act.put _ (some 8) _ = _
 simp only [Act.put, List.setIfInBounds_toArray, List.set_cons_zero, List.set_cons_succ, i64_w, i32_w]
 rfl)
 refine one_ (i := 4) (N := some 9) #[true, true, true, true, true, true, true, true, true, false, true, true, true, true, false, false, false, false] rfl rfl (one_of HT_.out (by kernel_rfl)) (by decide) (fun K hK => ?_)
 refine gs_ Try.func71 #[.int .i64 t142, .int .i64 t143] ?_
 with_reducible refine (Cu.calls t142 t143 t144 _ A5.out).mono ?_
 rintro e w' ⟨rfl, ⟨nd, rfl⟩⟩
 refine ⟨_, rfl, ?_⟩
 refine hK.out _ _ ⟨(Ab BK140.out 0).trans rfl, (Ab BK140.out 1).trans rfl, (Ab BK140.out 2).trans rfl, (Ab BK141.out 0).trans rfl, (Ab BK141.out 1).trans rfl, (Ab BK141.out 2).trans rfl⟩ (fun hHeld => ?_)
 clear hK K
 refine norm_ (a' := ?_) ?_ ?_
 rotate_left
 ·(
 show Act.put _ (some 9) _ = _
 simp only [Act.put, List.setIfInBounds_toArray, List.set_cons_zero, List.set_cons_succ, i64_w, i32_w]
 rfl)
 refine one_ (i := 9) (N := some 14) #[true, true, true, true, true, true, true, true, true, true, true, true, true, true, false, false, false, false] rfl rfl (one_of HT_.out (by kernel_rfl)) (by decide) (fun K hK => ?_)
 refine gs_ Try.func73 #[.int .i64 a0_1, .int .i64 a1_1] ?_
 with_reducible refine (Cn.calls a0_1 a1_1 t145 _ A6.out).mono ?_
 rintro e w' ⟨rfl, ⟨nd, rfl⟩⟩
 refine ⟨_, rfl, ?_⟩
 refine hK.out _ _ ⟨(Ab BK140.out 0).trans rfl, (Ab BK140.out 1).trans rfl, (Ab BK140.out 2).trans rfl, (Ab BK141.out 0).trans rfl, (Ab BK141.out 1).trans rfl, (Ab BK141.out 2).trans rfl⟩ (fun hHeld => ?_)
 clear hK K
 refine norm_ (a' := ?_) ?_ ?_
 rotate_left
 ·(
 show Act.put _ (some 14) _ = _
 simp only [Act.put, List.setIfInBounds_toArray, List.set_cons_zero, List.set_cons_succ, i64_w, i32_w]
 rfl)
 refine one_ (i := 14) (N := some 19) #[true, true, true, true, true, true, true, true, true, true, true, true, true, true, true, false, false, false] rfl rfl (one_of HT_.out (by kernel_rfl)) (by decide) (fun K hK => ?_)
 refine gs_ Try.func74 #[.string a0_2, .string a1_2] ?_
 with_reducible refine (Cj.calls a0_2 a1_2 t146 _ A7.out).mono ?_
 rintro e w' ⟨rfl, ⟨nd, rfl⟩⟩
 refine ⟨_, rfl, ?_⟩
 refine hK.out _ _ ⟨(Ab BK140.out 0).trans rfl, (Ab BK140.out 1).trans rfl, (Ab BK140.out 2).trans rfl, (Ab BK141.out 0).trans rfl, (Ab BK141.out 1).trans rfl, (Ab BK141.out 2).trans rfl⟩ (fun hHeld => ?_)
 clear hK K
 refine norm_ (a' := ?_) ?_ ?_
 rotate_left
 ·(
 show Act.put _ (some 19) _ = _
 simp only [Act.put, List.setIfInBounds_toArray, List.set_cons_zero, List.set_cons_succ, i64_w, i32_w]
 rfl)
 refine one_ (i := 15) (N := some 20) #[true, true, true, true, true, true, true, true, true, true, true, true, true, true, true, true, false, false] rfl rfl (one_of HT_.out (by kernel_rfl)) (by decide) (fun K hK => ?_)
 refine Kd.R_lit_step (Kd.int .i64) _ 3 ?hg (N := 20) ?hd (xs := ([t144, t145, t146] : List Int)) (inner := [.int .i64 t144, .int .i64 t145, .int .i64 t146]) (ok := fun _ => True) (okp := fun _ => True) ?hr ?hp (fun _ hk => hk) trivial (Below.refl _ _) (Nat.le_refl _) (by simp) ?_; (case hd => rfl); (case hg => rfl); (case hr => first | (go_simp; done) | (go_simp; rfl)); (case hp => exact (Reps.one (show Kd.M (Kd.int .i64) _ _ _ t144 [.int .i64 t144] from rfl) (Reps.one (show Kd.M (Kd.int .i64) _ _ _ t145 [.int .i64 t145] from rfl) (Reps.one (show Kd.M (Kd.int .i64) _ _ _ t146 [.int .i64 t146] from rfl) (Reps.none _ _)))))
 intro v148 w14 ho15 hb hg_ hnew_
 clear hg_ hnew_
 (first | rw [← Ny147.out] at ho15 | (simp only [Int.reduceToNat] at ho15; rw [← Ny147.out] at ho15))
 have HO149 := Aa.mk (Kd.R_lower ho15 (Ca (by repeat (first | (with_reducible first | exact HB.out | apply Ak | apply Ah | apply Aj | refine Ao ?_ GE140.out | refine Ao ?_ GE141.out) | exact HB.out)))); replace BK140 := bk_ BK140 hb; replace BK141 := bk_ BK141 hb; replace HB := bs_ HB hb
 clear hb ho15
 obtain ⟨Ao16, co16, eo16⟩ := Kd.R_slice HO149.out
 (first | subst eo16 | (injection eo16 with f1_ f2_ f3_; have f4_ := f1_.symm; have f5_ := f3_.symm; clear f1_ f2_ f3_; subst f4_; subst f5_))
 refine hK.out _ _ ⟨(Ab BK140.out 0).trans rfl, (Ab BK140.out 1).trans rfl, (Ab BK140.out 2).trans rfl, (Ab BK141.out 0).trans rfl, (Ab BK141.out 1).trans rfl, (Ab BK141.out 2).trans rfl⟩ (fun hHeld => ?_)
 clear hK K
 refine norm_ (a' := ?_) ?_ ?_
 rotate_left
 ·(
 show Act.put _ (some 20) _ = _
 simp only [Act.put, List.setIfInBounds_toArray, List.set_cons_zero, List.set_cons_succ, i64_w, i32_w]
 rfl)
 refine one_ (i := 16) (N := some 21) #[true, true, true, true, true, true, true, true, true, true, true, true, true, true, true, true, true, false] rfl rfl (one_of HT_.out (by kernel_rfl)) (by decide) (fun K hK => ?_)
 refine gs_ Try.func70 #[.slice Ao16 y147.length co16] ?_
 with_reducible refine (Bq.calls k _ _ y147 t150 _ ?side1 ?side2 A8.out).mono ?_
 (case side1 => repeat (first | exact (Kd.R_reads' HO149.out).2.2 | (with_reducible refine Kd.C_alloc ?_ _) | (with_reducible refine Kd.C_drewN ?_ _) | (with_reducible refine Kd.C_drew ?_)))
 (case side2 => exact (Kd.R_reads' HO149.out).2.1)
 rintro e w' ⟨rfl, ⟨nd, rfl⟩⟩
 refine ⟨_, rfl, ?_⟩
 refine hK.out _ _ ⟨(Ab BK140.out 0).trans rfl, (Ab BK140.out 1).trans rfl, (Ab BK140.out 2).trans rfl, (Ab BK141.out 0).trans rfl, (Ab BK141.out 1).trans rfl, (Ab BK141.out 2).trans rfl⟩ (fun hHeld => ?_)
 clear hK K
 refine norm_ (a' := ?_) ?_ ?_
 rotate_left
 ·(
 show Act.put _ (some 21) _ = _
 simp only [Act.put, List.setIfInBounds_toArray, List.set_cons_zero, List.set_cons_succ, i64_w, i32_w]
 rfl)
 refine pu_ 17 (some 4) (bl_ 18 262143) ?_
 refine done_ (done_of HT_.out (by kernel_rfl)) ?_
 try go_wp2
 go_ret
 exact en_ HB
attribute [local go_sem high] eqA24
mutual
def Bu.j0 : Nat → Int → Bool → Int → Int → Bool → Int → ByteArray → Bool → Int → ByteArray → Option (Bool)
 | 0, _, _, _, _, _, _, _, _, _, _ => none
 | k + 1, x0, x5, x152000, x152001, x152002, x152003, x152004, x152005, x152006, x152007 => if x5 = true then (some false) else (if x152000 < 0 then (Bu.j1 k x0 true x152000 x152001 x152002 x152003 x152004 x152005 x152006 x152007) else (if x152000 > 4096 then (Bu.j1 k x0 true x152000 x152001 x152002 x152003 x152004 x152005 x152006 x152007) else (if x152001 < 0 then (Bu.j1 k x0 true x152000 x152001 x152002 x152003 x152004 x152005 x152006 x152007) else (Bu.j1 k x0 (decide (x152001 > x152000)) x152000 x152001 x152002 x152003 x152004 x152005 x152006 x152007))))
def Bu.j1 : Nat → Int → Bool → Int → Int → Bool → Int → ByteArray → Bool → Int → ByteArray → Option (Bool)
 | 0, _, _, _, _, _, _, _, _, _, _ => none
 | k + 1, x0, x12, x152000, x152001, x152002, x152003, x152004, x152005, x152006, x152007 => if x12 = true then (some false) else ((Cx.f x152000 x152001 x152002 x152003 x152004 x152005 x152006 x152007).bind fun t152 => (if t152 = true then ((Br.f x0 false x152002 x152003 x152004).bind fun t153 => (if t153 = true then ((Br.f x0 false x152005 x152006 x152007).bind fun t154 => (if t154 = true then ((Bl.f k x152002 x152003 x152004 x152005 x152006 x152007).bind fun t155 => (some (decide (t155 ≤ 0)))) else (some false))) else (some false))) else (if (!x152002 && (x152003 == 0 && (x152004.toList.isEmpty))) = true then (some (!x152005 && (x152006 == 0 && (x152007.toList.isEmpty)))) else (some false))))
end
def Bu.f (k : Nat) (a0 : Int) (a1_0 : Int) (a1_1 : Int) (a1_2 : Bool) (a1_3 : Int) (a1_4 : ByteArray) (a1_5 : Bool) (a1_6 : Int) (a1_7 : ByteArray) : Option (Bool) := if a0 < 1 then (Bu.j0 k a0 true a1_0 a1_1 a1_2 a1_3 a1_4 a1_5 a1_6 a1_7) else (Bu.j0 k a0 (decide (a0 > 3)) a1_0 a1_1 a1_2 a1_3 a1_4 a1_5 a1_6 a1_7)
theorem Bu.mono_l : ∀ k, (∀ y0 y1 y2 y3 y4 y5 y6 y7 y8 y9, LeO (Bu.j0 k y0 y1 y2 y3 y4 y5 y6 y7 y8 y9) (Bu.j0 (k + 1) y0 y1 y2 y3 y4 y5 y6 y7 y8 y9)) ∧ (∀ y0 y1 y2 y3 y4 y5 y6 y7 y8 y9, LeO (Bu.j1 k y0 y1 y2 y3 y4 y5 y6 y7 y8 y9) (Bu.j1 (k + 1) y0 y1 y2 y3 y4 y5 y6 y7 y8 y9))
 | 0 => ⟨fun _ _ _ _ _ _ _ _ _ _ r h => by simp [Bu.j0] at h, fun _ _ _ _ _ _ _ _ _ _ r h => by simp [Bu.j1] at h⟩
 | k + 1 => by
  obtain ⟨ih0, ih1⟩ := Bu.mono_l k
  refine ⟨?_, ?_⟩
  focus intro y0 y1 y2 y3 y4 y5 y6 y7 y8 y9;unfold Bu.j0
  rotate_left
  focus intro y0 y1 y2 y3 y4 y5 y6 y7 y8 y9;unfold Bu.j1
  rotate_left
  all_goals repeat' first|(with_reducible first|exact ih0 _ _ _ _ _ _ _ _ _ _|exact ih1 _ _ _ _ _ _ _ _ _ _|exact Bl.mono _ _ _ _ _ _ _|exact LeO.refl _|exact LeO.none _|refine LeO.ite ?_ ?_|refine LeO.bind ?_ fun _=>?_)|exact ih0 _ _ _ _ _ _ _ _ _ _|exact ih1 _ _ _ _ _ _ _ _ _ _|exact Bl.mono _ _ _ _ _ _ _|exact LeO.none _|refine LeO.ite ?_ ?_|refine LeO.bind ?_ fun _=>?_
theorem Bu.mono : ∀ a0 a1 a2 a3 a4 a5 a6 a7 a8 k, LeO (Bu.f k a0 a1 a2 a3 a4 a5 a6 a7 a8) (Bu.f (k + 1) a0 a1 a2 a3 a4 a5 a6 a7 a8) := by
 intro a0 a1 a2 a3 a4 a5 a6 a7 a8 k
 obtain ⟨ih0, ih1⟩ := Bu.mono_l k
 unfold Bu.f
 repeat' first|(with_reducible first|exact ih0 _ _ _ _ _ _ _ _ _ _|exact ih1 _ _ _ _ _ _ _ _ _ _|exact Bl.mono _ _ _ _ _ _ _|exact LeO.refl _|exact LeO.none _|refine LeO.ite ?_ ?_|refine LeO.bind ?_ fun _=>?_)|exact ih0 _ _ _ _ _ _ _ _ _ _|exact ih1 _ _ _ _ _ _ _ _ _ _|exact Bl.mono _ _ _ _ _ _ _|exact LeO.none _|refine LeO.ite ?_ ?_|refine LeO.bind ?_ fun _=>?_
theorem Bu.calls (k : Nat) (a0 : Int) (a1_0 : Int) (a1_1 : Int) (a1_2 : Bool) (a1_3 : Int) (a1_4 : ByteArray) (a1_5 : Bool) (a1_6 : Int) (a1_7 : ByteArray) (r : Bool) (w : World) (h : Bu.f k a0 a1_0 a1_1 a1_2 a1_3 a1_4 a1_5 a1_6 a1_7 = some r) :
  Calls Try.prog 28 #[.int .i64 a0, .agg #[.int .i64 a1_0, .int .i64 a1_1, .bool a1_2, .int .i64 a1_3, .string a1_4, .bool a1_5, .int .i64 a1_6, .string a1_7]] w fun e w' => e = .returned (.bool r) ∧ Below w.heap.size w w' := by
 have hu33 := Try.underlying33
 have hu24 := Try.underlying24
 have HB := Aa.mk (Below.refl w.heap.size w)
 have H : (if a0 < 1 then (Bu.j0 k a0 true a1_0 a1_1 a1_2 a1_3 a1_4 a1_5 a1_6 a1_7) else (Bu.j0 k a0 (decide (a0 > 3)) a1_0 a1_1 a1_2 a1_3 a1_4 a1_5 a1_6 a1_7)) = some r := h
 clear h
 have HC3 := Aa.mk H
 clear H
 go_enter Try.func28, Try.ntmps28
 go_upto_region 1 with (first | (refine bx_ (N := 3) (cs := #[.int .i64 a1_0, .int .i64 a1_1, .bool a1_2, .int .i64 a1_3, .string a1_4, .bool a1_5, .int .i64 a1_6, .string a1_7]) (t := 33) ?_; intro gb151 hg w4 hbox hb; have BK151 := Aa.mk (hbox); have GW151 := ge_ HB hg; have GE151 := ge_ HB hg; replace HB := bs_ HB hb; clear hb hbox hg))
 (try simp only [Act.put, List.setIfInBounds_toArray, List.set_cons_zero, List.set_cons_succ])
 go_cut [5] (fun v5 wc => ∃ (kq : Nat) (x5_2 : Bool), v5 = .bool x5_2 ∧ Aa (Bu.j0 kq a0 x5_2 a1_0 a1_1 a1_2 a1_3 a1_4 a1_5 a1_6 a1_7 = some r) ∧ Aa (kq ≤ k) ∧ Aa (wc.heap[gb151]? = some (.cells #[.int .i64 a1_0, .int .i64 a1_1, .bool a1_2, .int .i64 a1_3, .string a1_4, .bool a1_5, .int .i64 a1_6, .string a1_7] 33 (0, 0))) ∧ Aa (Below w.heap.size w wc))
 case first =>(
 have H := HC3.out
 clear HC3
 by_cases c5 : a0 < 1
 rotate_left
 focus(
 rw [if_neg c5] at H
 have c5b0 : decide (a0 < 1) = false := decide_eq_false c5)
 rotate_right
 focus(
 rw [if_pos c5] at H
 have c5b0 : decide (a0 < 1) = true := decide_eq_true c5)
 all_goals(
 clear c5
 (first | rw [c5b0] | (simp only [i64_w, i32_w]; rw [c5b0]) | skip)
 have H' := Aa.mk H
 clear H
 go_wp2
 go_meet
 case rel => exact ⟨_, _, (by first | rfl | (simp; done) | (simp [*]; done)), H', ⟨by first | omega | exact Nat.le_refl _⟩, ⟨by (with_reducible repeat (first | refine Ag ?_ _ | refine Af ?_ | refine Ae ?_ _)); exact BK151.out⟩, ⟨by repeat (first | (with_reducible first | exact HB.out | apply Ak | apply Ah | apply Aj | refine Ao ?_ GE151.out) | exact HB.out)⟩⟩))
 case rest =>(
 clear HC3
 try clear c5
 try clear c5b0
 obtain ⟨kq, x5_2, rfl, HA, HJ2, BK151, HB⟩ := hcut
 cases kq with
 | zero => exact absurd HA.out (by simp [Bu.j0])
 | succ kj2 =>(
 have H := HA.out
 clear HA
 simp only [Bu.j0] at H
 by_cases c6 : x5_2 = true
 ·(
 subst c6
 have H1 : (some false) = some r := by rw [if_pos rfl] at H; exact H
 clear H
 have H := H1
 clear H1
 obtain rfl := Dp H
 go_wp2
 go_ret
 exact en_ HB)
 ·(
 replace c6 := Dq c6
 subst c6
 have H1 : (if a1_0 < 0 then (Bu.j1 kj2 a0 true a1_0 a1_1 a1_2 a1_3 a1_4 a1_5 a1_6 a1_7) else (if a1_0 > 4096 then (Bu.j1 kj2 a0 true a1_0 a1_1 a1_2 a1_3 a1_4 a1_5 a1_6 a1_7) else (if a1_1 < 0 then (Bu.j1 kj2 a0 true a1_0 a1_1 a1_2 a1_3 a1_4 a1_5 a1_6 a1_7) else (Bu.j1 kj2 a0 (decide (a1_1 > a1_0)) a1_0 a1_1 a1_2 a1_3 a1_4 a1_5 a1_6 a1_7)))) = some r := by rw [if_neg (show ¬ (false = true) by decide)] at H; exact H
 clear H
 have H := H1
 clear H1
 have HC7 := Aa.mk H
 clear H
 go_upto_region 3 with (fail)
 go_cut [12] (fun v12 wc => ∃ (kq : Nat) (x12_6 : Bool), v12 = .bool x12_6 ∧ Aa (Bu.j1 kq a0 x12_6 a1_0 a1_1 a1_2 a1_3 a1_4 a1_5 a1_6 a1_7 = some r) ∧ Aa (kq ≤ kj2) ∧ Aa (wc.heap[gb151]? = some (.cells #[.int .i64 a1_0, .int .i64 a1_1, .bool a1_2, .int .i64 a1_3, .string a1_4, .bool a1_5, .int .i64 a1_6, .string a1_7] 33 (0, 0))) ∧ Aa (Below w.heap.size w wc))
 case first =>(
 have H := HC7.out
 clear HC7
 by_cases c8 : a1_0 < 0
 rotate_left
 focus(
 rw [if_neg c8] at H
 have c8b0 : decide (a1_0 < 0) = false := decide_eq_false c8
 clear c8
 (first | rw [c8b0] | (simp only [i64_w, i32_w]; rw [c8b0]) | skip)
 by_cases c10 : a1_0 > 4096
 rotate_left
 focus(
 rw [if_neg c10] at H
 have c10b0 : decide (4096 < a1_0) = false := decide_eq_false c10
 clear c10
 by_cases c12 : a1_1 < 0
 rotate_left
 focus(
 rw [if_neg c12] at H
 have c12b0 : decide (a1_1 < 0) = false := decide_eq_false c12)
 rotate_right
 focus(
 rw [if_pos c12] at H
 have c12b0 : decide (a1_1 < 0) = true := decide_eq_true c12)
 all_goals clear c12)
 rotate_right
 focus(
 rw [if_pos c10] at H
 have c10b0 : decide (4096 < a1_0) = true := decide_eq_true c10
 clear c10))
 rotate_right
 focus(
 rw [if_pos c8] at H
 have c8b0 : decide (a1_0 < 0) = true := decide_eq_true c8
 clear c8
 (first | rw [c8b0] | (simp only [i64_w, i32_w]; rw [c8b0]) | skip))
 all_goals(
 have H' := Aa.mk H
 clear H
 obtain ⟨C9_0, C9_1, C9_2, C9_3, C9_4, C9_5, C9_6, C9_7⟩ := cz8_ BK151.out
 obtain ⟨F9_0, F9_1, F9_2, F9_3, F9_4, F9_5, F9_6, F9_7⟩ := fz8_ BK151.out
 go_wp2
 go_meet
 case rel => exact ⟨_, _, (by first | rfl | (simp; done) | (simp [*]; done)), H', ⟨by have := HJ2.out; first | omega | exact Nat.le_refl _⟩, ⟨by (with_reducible repeat (first | refine Ag ?_ _ | refine Af ?_ | refine Ae ?_ _)); exact BK151.out⟩, ⟨by repeat (first | (with_reducible first | exact HB.out | apply Ak | apply Ah | apply Aj | refine Ao ?_ GE151.out) | exact HB.out)⟩⟩))
 case rest =>(
 clear HC7
 try clear c6
 try clear c8
 try clear c8b0
 try clear c10
 try clear c10b0
 try clear c12
 try clear c12b0
 try clear C11_0 C11_1 C11_2 C11_3 C11_4 C11_5 C11_6 C11_7
 try clear C13_0 C13_1 C13_2 C13_3 C13_4 C13_5 C13_6 C13_7
 try clear C14_0 C14_1 C14_2 C14_3 C14_4 C14_5 C14_6 C14_7
 try clear C9_0 C9_1 C9_2 C9_3 C9_4 C9_5 C9_6 C9_7
 try clear F11_0 F11_1 F11_2 F11_3 F11_4 F11_5 F11_6 F11_7
 try clear F13_0 F13_1 F13_2 F13_3 F13_4 F13_5 F13_6 F13_7
 try clear F14_0 F14_1 F14_2 F14_3 F14_4 F14_5 F14_6 F14_7
 try clear F9_0 F9_1 F9_2 F9_3 F9_4 F9_5 F9_6 F9_7
 obtain ⟨kq, x12_6, rfl, HA, HJ6, BK151, HB⟩ := hcut
 cases kq with
 | zero => exact absurd HA.out (by simp [Bu.j1])
 | succ kj6 =>(
 have H := HA.out
 clear HA
 simp only [Bu.j1] at H
 by_cases c15 : x12_6 = true
 ·(
 subst c15
 have H1 : (some false) = some r := by rw [if_pos rfl] at H; exact H
 clear H
 have H := H1
 clear H1
 obtain rfl := Dp H
 go_wp2
 go_ret
 exact en_ HB)
 ·(
 replace c15 := Dq c15
 subst c15
 have H1 : ((Cx.f a1_0 a1_1 a1_2 a1_3 a1_4 a1_5 a1_6 a1_7).bind fun t152 => (if t152 = true then ((Br.f a0 false a1_2 a1_3 a1_4).bind fun t153 => (if t153 = true then ((Br.f a0 false a1_5 a1_6 a1_7).bind fun t154 => (if t154 = true then ((Bl.f kj6 a1_2 a1_3 a1_4 a1_5 a1_6 a1_7).bind fun t155 => (some (decide (t155 ≤ 0)))) else (some false))) else (some false))) else (if (!a1_2 && (a1_3 == 0 && (a1_4.toList.isEmpty))) = true then (some (!a1_5 && (a1_6 == 0 && (a1_7.toList.isEmpty)))) else (some false)))) = some r := by rw [if_neg (show ¬ (false = true) by decide)] at H; exact H
 clear H
 have H := H1
 clear H1
 replace H := Dn H
 obtain ⟨t152, A160, H⟩ := H
 replace H : (if t152 = true then ((Br.f a0 false a1_2 a1_3 a1_4).bind fun t153 => (if t153 = true then ((Br.f a0 false a1_5 a1_6 a1_7).bind fun t154 => (if t154 = true then ((Bl.f kj6 a1_2 a1_3 a1_4 a1_5 a1_6 a1_7).bind fun t155 => (some (decide (t155 ≤ 0)))) else (some false))) else (some false))) else (if (!a1_2 && (a1_3 == 0 && (a1_4.toList.isEmpty))) = true then (some (!a1_5 && (a1_6 == 0 && (a1_7.toList.isEmpty)))) else (some false))) = some r := H
 have A16 := Aa.mk A160
 clear A160
 by_cases c17 : t152 = true
 ·(
 subst c17
 have H1 : ((Br.f a0 false a1_2 a1_3 a1_4).bind fun t153 => (if t153 = true then ((Br.f a0 false a1_5 a1_6 a1_7).bind fun t154 => (if t154 = true then ((Bl.f kj6 a1_2 a1_3 a1_4 a1_5 a1_6 a1_7).bind fun t155 => (some (decide (t155 ≤ 0)))) else (some false))) else (some false))) = some r := by rw [if_pos rfl] at H; exact H
 clear H
 have H := H1
 clear H1
 replace H := Dn H
 obtain ⟨t153, A180, H⟩ := H
 replace H : (if t153 = true then ((Br.f a0 false a1_5 a1_6 a1_7).bind fun t154 => (if t154 = true then ((Bl.f kj6 a1_2 a1_3 a1_4 a1_5 a1_6 a1_7).bind fun t155 => (some (decide (t155 ≤ 0)))) else (some false))) else (some false)) = some r := H
 have A18 := Aa.mk A180
 clear A180
 by_cases c19 : t153 = true
 ·(
 subst c19
 have H1 : ((Br.f a0 false a1_5 a1_6 a1_7).bind fun t154 => (if t154 = true then ((Bl.f kj6 a1_2 a1_3 a1_4 a1_5 a1_6 a1_7).bind fun t155 => (some (decide (t155 ≤ 0)))) else (some false))) = some r := by rw [if_pos rfl] at H; exact H
 clear H
 have H := H1
 clear H1
 replace H := Dn H
 obtain ⟨t154, A200, H⟩ := H
 replace H : (if t154 = true then ((Bl.f kj6 a1_2 a1_3 a1_4 a1_5 a1_6 a1_7).bind fun t155 => (some (decide (t155 ≤ 0)))) else (some false)) = some r := H
 have A20 := Aa.mk A200
 clear A200
 by_cases c21 : t154 = true
 ·(
 subst c21
 have H1 : ((Bl.f kj6 a1_2 a1_3 a1_4 a1_5 a1_6 a1_7).bind fun t155 => (some (decide (t155 ≤ 0)))) = some r := by rw [if_pos rfl] at H; exact H
 clear H
 have H := H1
 clear H1
 replace H := Dn H
 obtain ⟨t155, A220, H⟩ := H
 replace H : (some (decide (t155 ≤ 0))) = some r := H
 have A22 := Aa.mk A220
 clear A220
 obtain rfl := Dp H
 obtain ⟨C23_0, C23_1, C23_2, C23_3, C23_4, C23_5, C23_6, C23_7⟩ := cz8_ BK151.out
 obtain ⟨F23_0, F23_1, F23_2, F23_3, F23_4, F23_5, F23_6, F23_7⟩ := fz8_ BK151.out
 go_wp2_with (first | ((with_reducible refine Aw (f := 48) rfl ?_); refine gl_ (some 35) rfl Try.func48 #[.agg #[.int .i64 a1_0, .int .i64 a1_1, .bool a1_2, .int .i64 a1_3, .string a1_4, .bool a1_5, .int .i64 a1_6, .string a1_7]] ?_; (with_reducible refine (Cx.calls a1_0 a1_1 a1_2 a1_3 a1_4 a1_5 a1_6 a1_7 true _ A16.out).mono ?_); rintro e w24 ⟨rfl, hb⟩; refine ⟨_, rfl, ?_⟩;  replace BK151 := bk_ BK151 hb; replace HB := bs_ HB hb; (try clear hb); obtain ⟨C25_0, C25_1, C25_2, C25_3, C25_4, C25_5, C25_6, C25_7⟩ := zc8_ BK151.out; obtain ⟨F25_0, F25_1, F25_2, F25_3, F25_4, F25_5, F25_6, F25_7⟩ := zf8_ BK151.out) | ((with_reducible refine Aw (f := 49) rfl ?_); refine gl_ (some 50) rfl Try.func49 #[.int .i64 a0, .bool false, .agg #[.bool a1_2, .int .i64 a1_3, .string a1_4]] ?_; (with_reducible refine (Br.calls a0 false a1_2 a1_3 a1_4 true _ A18.out).mono ?_); rintro e w26 ⟨rfl, hb⟩; refine ⟨_, rfl, ?_⟩;  replace BK151 := bk_ BK151 hb; replace HB := bs_ HB hb; (try clear hb); obtain ⟨C27_0, C27_1, C27_2, C27_3, C27_4, C27_5, C27_6, C27_7⟩ := zc8_ BK151.out; obtain ⟨F27_0, F27_1, F27_2, F27_3, F27_4, F27_5, F27_6, F27_7⟩ := zf8_ BK151.out) | (go_at_call 49; (with_reducible refine (Br.calls a0 false a1_5 a1_6 a1_7 true _ A20.out).mono ?_); rintro e w28 ⟨rfl, hb⟩;  replace BK151 := bk_ BK151 hb; replace HB := bs_ HB hb; (try clear hb); obtain ⟨C29_0, C29_1, C29_2, C29_3, C29_4, C29_5, C29_6, C29_7⟩ := zc8_ BK151.out; obtain ⟨F29_0, F29_1, F29_2, F29_3, F29_4, F29_5, F29_6, F29_7⟩ := zf8_ BK151.out) | (go_at_call 50; (with_reducible refine (Bl.calls kj6 a1_2 a1_3 a1_4 a1_5 a1_6 a1_7 t155 _ A22.out).mono ?_); rintro e w30 ⟨rfl, hb⟩;  replace BK151 := bk_ BK151 hb; replace HB := bs_ HB hb; (try clear hb)))
 go_ret
 exact en_ HB)
 ·(
 replace c21 := Dq c21
 subst c21
 have H1 : (some false) = some r := by rw [if_neg (show ¬ (false = true) by decide)] at H; exact H
 clear H
 have H := H1
 clear H1
 obtain rfl := Dp H
 obtain ⟨C31_0, C31_1, C31_2, C31_3, C31_4, C31_5, C31_6, C31_7⟩ := cz8_ BK151.out
 obtain ⟨F31_0, F31_1, F31_2, F31_3, F31_4, F31_5, F31_6, F31_7⟩ := fz8_ BK151.out
 go_wp2_with (first | ((with_reducible refine Aw (f := 48) rfl ?_); refine gl_ (some 35) rfl Try.func48 #[.agg #[.int .i64 a1_0, .int .i64 a1_1, .bool a1_2, .int .i64 a1_3, .string a1_4, .bool a1_5, .int .i64 a1_6, .string a1_7]] ?_; (with_reducible refine (Cx.calls a1_0 a1_1 a1_2 a1_3 a1_4 a1_5 a1_6 a1_7 true _ A16.out).mono ?_); rintro e w32 ⟨rfl, hb⟩; refine ⟨_, rfl, ?_⟩;  replace BK151 := bk_ BK151 hb; replace HB := bs_ HB hb; (try clear hb); obtain ⟨C33_0, C33_1, C33_2, C33_3, C33_4, C33_5, C33_6, C33_7⟩ := zc8_ BK151.out; obtain ⟨F33_0, F33_1, F33_2, F33_3, F33_4, F33_5, F33_6, F33_7⟩ := zf8_ BK151.out) | ((with_reducible refine Aw (f := 49) rfl ?_); refine gl_ (some 50) rfl Try.func49 #[.int .i64 a0, .bool false, .agg #[.bool a1_2, .int .i64 a1_3, .string a1_4]] ?_; (with_reducible refine (Br.calls a0 false a1_2 a1_3 a1_4 true _ A18.out).mono ?_); rintro e w34 ⟨rfl, hb⟩; refine ⟨_, rfl, ?_⟩;  replace BK151 := bk_ BK151 hb; replace HB := bs_ HB hb; (try clear hb); obtain ⟨C35_0, C35_1, C35_2, C35_3, C35_4, C35_5, C35_6, C35_7⟩ := zc8_ BK151.out; obtain ⟨F35_0, F35_1, F35_2, F35_3, F35_4, F35_5, F35_6, F35_7⟩ := zf8_ BK151.out) | (go_at_call 49; (with_reducible refine (Br.calls a0 false a1_5 a1_6 a1_7 false _ A20.out).mono ?_); rintro e w36 ⟨rfl, hb⟩;  replace BK151 := bk_ BK151 hb; replace HB := bs_ HB hb; (try clear hb)))
 go_ret
 exact en_ HB))
 ·(
 replace c19 := Dq c19
 subst c19
 have H1 : (some false) = some r := by rw [if_neg (show ¬ (false = true) by decide)] at H; exact H
 clear H
 have H := H1
 clear H1
 obtain rfl := Dp H
 obtain ⟨C37_0, C37_1, C37_2, C37_3, C37_4, C37_5, C37_6, C37_7⟩ := cz8_ BK151.out
 obtain ⟨F37_0, F37_1, F37_2, F37_3, F37_4, F37_5, F37_6, F37_7⟩ := fz8_ BK151.out
 go_wp2_with (first | ((with_reducible refine Aw (f := 48) rfl ?_); refine gl_ (some 35) rfl Try.func48 #[.agg #[.int .i64 a1_0, .int .i64 a1_1, .bool a1_2, .int .i64 a1_3, .string a1_4, .bool a1_5, .int .i64 a1_6, .string a1_7]] ?_; (with_reducible refine (Cx.calls a1_0 a1_1 a1_2 a1_3 a1_4 a1_5 a1_6 a1_7 true _ A16.out).mono ?_); rintro e w38 ⟨rfl, hb⟩; refine ⟨_, rfl, ?_⟩;  replace BK151 := bk_ BK151 hb; replace HB := bs_ HB hb; (try clear hb); obtain ⟨C39_0, C39_1, C39_2, C39_3, C39_4, C39_5, C39_6, C39_7⟩ := zc8_ BK151.out; obtain ⟨F39_0, F39_1, F39_2, F39_3, F39_4, F39_5, F39_6, F39_7⟩ := zf8_ BK151.out) | ((with_reducible refine Aw (f := 49) rfl ?_); refine gl_ (some 50) rfl Try.func49 #[.int .i64 a0, .bool false, .agg #[.bool a1_2, .int .i64 a1_3, .string a1_4]] ?_; (with_reducible refine (Br.calls a0 false a1_2 a1_3 a1_4 false _ A18.out).mono ?_); rintro e w40 ⟨rfl, hb⟩; refine ⟨_, rfl, ?_⟩;  replace BK151 := bk_ BK151 hb; replace HB := bs_ HB hb; (try clear hb)))
 go_ret
 exact en_ HB))
 ·(
 replace c17 := Dq c17
 subst c17
 have H1 : (if (!a1_2 && (a1_3 == 0 && (a1_4.toList.isEmpty))) = true then (some (!a1_5 && (a1_6 == 0 && (a1_7.toList.isEmpty)))) else (some false)) = some r := by rw [if_neg (show ¬ (false = true) by decide)] at H; exact H
 clear H
 have H := H1
 clear H1
 by_cases c41 : (!a1_2 && (a1_3 == 0 && (a1_4.toList.isEmpty))) = true
 rotate_left
 focus(
 rw [if_neg c41] at H
 have c41b0 : (!a1_2 && (a1_3 == 0 && (a1_4.toList.isEmpty))) = false := by simpa using c41)
 rotate_right
 focus(
 rw [if_pos c41] at H
 have c41b0 : (!a1_2 && (a1_3 == 0 && (a1_4.toList.isEmpty))) = true := c41)
 all_goals(
 clear c41
 obtain rfl := Dp H
 obtain ⟨C42_0, C42_1, C42_2, C42_3, C42_4, C42_5, C42_6, C42_7⟩ := cz8_ BK151.out
 obtain ⟨F42_0, F42_1, F42_2, F42_3, F42_4, F42_5, F42_6, F42_7⟩ := fz8_ BK151.out
 go_wp2_with (first | ((with_reducible refine Aw (f := 48) rfl ?_); refine gl_ (some 35) rfl Try.func48 #[.agg #[.int .i64 a1_0, .int .i64 a1_1, .bool a1_2, .int .i64 a1_3, .string a1_4, .bool a1_5, .int .i64 a1_6, .string a1_7]] ?_; (with_reducible refine (Cx.calls a1_0 a1_1 a1_2 a1_3 a1_4 a1_5 a1_6 a1_7 false _ A16.out).mono ?_); rintro e w43 ⟨rfl, hb⟩; refine ⟨_, rfl, ?_⟩;  replace BK151 := bk_ BK151 hb; replace HB := bs_ HB hb; (try clear hb); obtain ⟨C44_0, C44_1, C44_2, C44_3, C44_4, C44_5, C44_6, C44_7⟩ := zc8_ BK151.out; obtain ⟨F44_0, F44_1, F44_2, F44_3, F44_4, F44_5, F44_6, F44_7⟩ := zf8_ BK151.out))
 go_ret
 exact en_ HB))))))))
def Cl.f (a0_0 : Bool) (a0_1 : Bool) (a0_2 : Bool) : Option (Bool × Bool × Bool) := some (a0_1, a0_0, a0_2)
theorem Cl.calls (a0_0 : Bool) (a0_1 : Bool) (a0_2 : Bool) (r1 : Bool) (r2 : Bool) (r3 : Bool) (w : World) (h : Cl.f a0_0 a0_1 a0_2 = some (r1, r2, r3)) :
  Calls Try.prog 51 #[.agg #[.bool a0_0, .bool a0_1, .bool a0_2]] w fun e w' => e = .returned (.agg #[.bool r1, .bool r2, .bool r3]) ∧ Below w.heap.size w w' := by
 have hu35 := Try.underlying35
 have HB := Aa.mk (Below.refl w.heap.size w)
 have H : (some (a0_1, a0_0, a0_2)) = some (r1, r2, r3) := h
 clear h
 simp only [Option.some.injEq, Prod.mk.injEq] at H
 obtain ⟨rfl, rfl, rfl⟩ := H
 go_enter Try.func51, Try.ntmps51
 go_wp2_with (first | (refine bx_ (N := 1) (cs := #[.bool a0_0, .bool a0_1, .bool a0_2]) (t := 35) ?_; intro gb156 hg w2 hbox hb; have BK156 := Aa.mk (hbox); have GW156 := ge_ HB hg; have GE156 := ge_ HB hg; replace HB := bs_ HB hb; clear hb hbox hg) | (refine bx_ (N := 2) (cs := #[.bool false, .bool false, .bool false]) (t := 35) ?_; intro gb157 hg w3 hbox hb; have BK157 := Aa.mk (hbox); have GW157 := ge_ HB hg; have GE157 := ge_ HB hg; have NB156_157 := lt_ BK156 hg; have NB157_156 := gt_ BK156 hg; replace BK156 := bk_ BK156 hb; replace HB := bs_ HB hb; clear hb hbox hg; have hnb4 := NB156_157.out; have hnc4 := NB157_156.out; obtain ⟨C5_0, C5_1, C5_2⟩ := zc3_ BK156.out; obtain ⟨F5_0, F5_1, F5_2⟩ := zf3_ BK156.out; obtain ⟨C6_0, C6_1, C6_2⟩ := zc3_ BK157.out; obtain ⟨F6_0, F6_1, F6_2⟩ := zf3_ BK157.out))
 refine bodyPost_ret (results_cell_row rfl _ _ gb157 35 #[.bool a0_1, .bool a0_0, .bool a0_2] (0, 0) _ rfl (by (with_reducible repeat (first | refine Ag ?_ _ | refine Af ?_ | refine Ae ?_ _)); apply Cf; (with_reducible repeat (first | refine Ag ?_ _ | refine Af ?_ | refine Ae ?_ _)); exact BK157.out) Try.underlying35 rfl (by kernel_rfl)) rfl ?_
 exact en_ HB
def Co.f (a0_0 : Bool) (a0_1 : Bool) (a0_2 : Bool) (a1_0 : Bool) (a1_1 : Bool) (a1_2 : Bool) : Option (Bool × Bool × Bool) := if a0_0 = true then (if a0_1 = true then (if a0_2 = true then (some (a1_0, true, true)) else (some (a1_0, true, a1_2))) else (if a0_2 = true then (some (a1_0, a1_1, true)) else (some (a1_0, a1_1, a1_2)))) else (if a0_1 = true then (if a0_2 = true then (some (false, true, true)) else (some (false, true, a1_2))) else (if a0_2 = true then (some (false, a1_1, true)) else (some (false, a1_1, a1_2))))
theorem Co.calls (a0_0 : Bool) (a0_1 : Bool) (a0_2 : Bool) (a1_0 : Bool) (a1_1 : Bool) (a1_2 : Bool) (r1 : Bool) (r2 : Bool) (r3 : Bool) (w : World) (h : Co.f a0_0 a0_1 a0_2 a1_0 a1_1 a1_2 = some (r1, r2, r3)) :
  Calls Try.prog 52 #[.agg #[.bool a0_0, .bool a0_1, .bool a0_2], .agg #[.bool a1_0, .bool a1_1, .bool a1_2]] w fun e w' => e = .returned (.agg #[.bool r1, .bool r2, .bool r3]) ∧ Below w.heap.size w w' := by
 have hu35 := Try.underlying35
 have HB := Aa.mk (Below.refl w.heap.size w)
 have H : (if a0_0 = true then (if a0_1 = true then (if a0_2 = true then (some (a1_0, true, true)) else (some (a1_0, true, a1_2))) else (if a0_2 = true then (some (a1_0, a1_1, true)) else (some (a1_0, a1_1, a1_2)))) else (if a0_1 = true then (if a0_2 = true then (some (false, true, true)) else (some (false, true, a1_2))) else (if a0_2 = true then (some (false, a1_1, true)) else (some (false, a1_1, a1_2))))) = some (r1, r2, r3) := h
 clear h
 by_cases c3 : a0_0 = true
 ·(
 subst c3
 have H1 : (if a0_1 = true then (if a0_2 = true then (some (a1_0, true, true)) else (some (a1_0, true, a1_2))) else (if a0_2 = true then (some (a1_0, a1_1, true)) else (some (a1_0, a1_1, a1_2)))) = some (r1, r2, r3) := by rw [if_pos rfl] at H; exact H
 clear H
 have H := H1
 clear H1
 by_cases c4 : a0_1 = true
 ·(
 subst c4
 have H1 : (if a0_2 = true then (some (a1_0, true, true)) else (some (a1_0, true, a1_2))) = some (r1, r2, r3) := by rw [if_pos rfl] at H; exact H
 clear H
 have H := H1
 clear H1
 by_cases c5 : a0_2 = true
 ·(
 subst c5
 have H1 : (some (a1_0, true, true)) = some (r1, r2, r3) := by rw [if_pos rfl] at H; exact H
 clear H
 have H := H1
 clear H1
 simp only [Option.some.injEq, Prod.mk.injEq] at H
 obtain ⟨rfl, rfl, rfl⟩ := H
 go_enter Try.func52, Try.ntmps52
 go_wp2_with (first | (refine bx_ (N := 2) (cs := #[.bool true, .bool true, .bool true]) (t := 35) ?_; intro gb158 hg w6 hbox hb; have BK158 := Aa.mk (hbox); have GW158 := ge_ HB hg; have GE158 := ge_ HB hg; replace HB := bs_ HB hb; clear hb hbox hg) | (refine bx_ (N := 3) (cs := #[.bool a1_0, .bool a1_1, .bool a1_2]) (t := 35) ?_; intro gb159 hg w7 hbox hb; have BK159 := Aa.mk (hbox); have GW159 := ge_ HB hg; have GE159 := ge_ HB hg; have NB158_159 := lt_ BK158 hg; have NB159_158 := gt_ BK158 hg; replace BK158 := bk_ BK158 hb; replace HB := bs_ HB hb; clear hb hbox hg) | (refine bx_ (N := 4) (cs := #[.bool false, .bool false, .bool false]) (t := 35) ?_; intro gb160 hg w8 hbox hb; have BK160 := Aa.mk (hbox); have GW160 := ge_ HB hg; have GE160 := ge_ HB hg; have NB158_160 := lt_ BK158 hg; have NB160_158 := gt_ BK158 hg; have NB159_160 := lt_ BK159 hg; have NB160_159 := gt_ BK159 hg; replace BK158 := bk_ BK158 hb; replace BK159 := bk_ BK159 hb; replace HB := bs_ HB hb; clear hb hbox hg; have hnb9 := NB158_159.out; have hnc9 := NB159_158.out; have hnb10 := NB158_160.out; have hnc10 := NB160_158.out; obtain ⟨C11_0, C11_1, C11_2⟩ := zc3_ BK158.out; obtain ⟨F11_0, F11_1, F11_2⟩ := zf3_ BK158.out; have hnb12 := NB159_160.out; have hnc12 := NB160_159.out; obtain ⟨C13_0, C13_1, C13_2⟩ := zc3_ BK159.out; obtain ⟨F13_0, F13_1, F13_2⟩ := zf3_ BK159.out; obtain ⟨C14_0, C14_1, C14_2⟩ := zc3_ BK160.out; obtain ⟨F14_0, F14_1, F14_2⟩ := zf3_ BK160.out))
 refine bodyPost_ret (results_cell_row rfl _ _ gb160 35 #[.bool a1_0, .bool true, .bool true] (0, 0) _ rfl (by (with_reducible repeat (first | refine Ag ?_ _ | refine Af ?_ | refine Ae ?_ _)); apply Cf; (with_reducible repeat (first | refine Ag ?_ _ | refine Af ?_ | refine Ae ?_ _)); exact BK160.out) Try.underlying35 rfl (by kernel_rfl)) rfl ?_
 exact en_ HB)
 ·(
 replace c5 := Dq c5
 subst c5
 have H1 : (some (a1_0, true, a1_2)) = some (r1, r2, r3) := by rw [if_neg (show ¬ (false = true) by decide)] at H; exact H
 clear H
 have H := H1
 clear H1
 simp only [Option.some.injEq, Prod.mk.injEq] at H
 obtain ⟨rfl, rfl, rfl⟩ := H
 go_enter Try.func52, Try.ntmps52
 go_wp2_with (first | (refine bx_ (N := 2) (cs := #[.bool true, .bool true, .bool false]) (t := 35) ?_; intro gb158 hg w15 hbox hb; have BK158 := Aa.mk (hbox); have GW158 := ge_ HB hg; have GE158 := ge_ HB hg; replace HB := bs_ HB hb; clear hb hbox hg) | (refine bx_ (N := 3) (cs := #[.bool a1_0, .bool a1_1, .bool a1_2]) (t := 35) ?_; intro gb159 hg w16 hbox hb; have BK159 := Aa.mk (hbox); have GW159 := ge_ HB hg; have GE159 := ge_ HB hg; have NB158_159 := lt_ BK158 hg; have NB159_158 := gt_ BK158 hg; replace BK158 := bk_ BK158 hb; replace HB := bs_ HB hb; clear hb hbox hg) | (refine bx_ (N := 4) (cs := #[.bool false, .bool false, .bool false]) (t := 35) ?_; intro gb160 hg w17 hbox hb; have BK160 := Aa.mk (hbox); have GW160 := ge_ HB hg; have GE160 := ge_ HB hg; have NB158_160 := lt_ BK158 hg; have NB160_158 := gt_ BK158 hg; have NB159_160 := lt_ BK159 hg; have NB160_159 := gt_ BK159 hg; replace BK158 := bk_ BK158 hb; replace BK159 := bk_ BK159 hb; replace HB := bs_ HB hb; clear hb hbox hg; have hnb18 := NB158_159.out; have hnc18 := NB159_158.out; have hnb19 := NB158_160.out; have hnc19 := NB160_158.out; obtain ⟨C20_0, C20_1, C20_2⟩ := zc3_ BK158.out; obtain ⟨F20_0, F20_1, F20_2⟩ := zf3_ BK158.out; have hnb21 := NB159_160.out; have hnc21 := NB160_159.out; obtain ⟨C22_0, C22_1, C22_2⟩ := zc3_ BK159.out; obtain ⟨F22_0, F22_1, F22_2⟩ := zf3_ BK159.out; obtain ⟨C23_0, C23_1, C23_2⟩ := zc3_ BK160.out; obtain ⟨F23_0, F23_1, F23_2⟩ := zf3_ BK160.out))
 refine bodyPost_ret (results_cell_row rfl _ _ gb160 35 #[.bool a1_0, .bool true, .bool a1_2] (0, 0) _ rfl (by (with_reducible repeat (first | refine Ag ?_ _ | refine Af ?_ | refine Ae ?_ _)); apply Cf; (with_reducible repeat (first | refine Ag ?_ _ | refine Af ?_ | refine Ae ?_ _)); exact BK160.out) Try.underlying35 rfl (by kernel_rfl)) rfl ?_
 exact en_ HB))
 ·(
 replace c4 := Dq c4
 subst c4
 have H1 : (if a0_2 = true then (some (a1_0, a1_1, true)) else (some (a1_0, a1_1, a1_2))) = some (r1, r2, r3) := by rw [if_neg (show ¬ (false = true) by decide)] at H; exact H
 clear H
 have H := H1
 clear H1
 by_cases c24 : a0_2 = true
 ·(
 subst c24
 have H1 : (some (a1_0, a1_1, true)) = some (r1, r2, r3) := by rw [if_pos rfl] at H; exact H
 clear H
 have H := H1
 clear H1
 simp only [Option.some.injEq, Prod.mk.injEq] at H
 obtain ⟨rfl, rfl, rfl⟩ := H
 go_enter Try.func52, Try.ntmps52
 go_wp2_with (first | (refine bx_ (N := 2) (cs := #[.bool true, .bool false, .bool true]) (t := 35) ?_; intro gb158 hg w25 hbox hb; have BK158 := Aa.mk (hbox); have GW158 := ge_ HB hg; have GE158 := ge_ HB hg; replace HB := bs_ HB hb; clear hb hbox hg) | (refine bx_ (N := 3) (cs := #[.bool a1_0, .bool a1_1, .bool a1_2]) (t := 35) ?_; intro gb159 hg w26 hbox hb; have BK159 := Aa.mk (hbox); have GW159 := ge_ HB hg; have GE159 := ge_ HB hg; have NB158_159 := lt_ BK158 hg; have NB159_158 := gt_ BK158 hg; replace BK158 := bk_ BK158 hb; replace HB := bs_ HB hb; clear hb hbox hg) | (refine bx_ (N := 4) (cs := #[.bool false, .bool false, .bool false]) (t := 35) ?_; intro gb160 hg w27 hbox hb; have BK160 := Aa.mk (hbox); have GW160 := ge_ HB hg; have GE160 := ge_ HB hg; have NB158_160 := lt_ BK158 hg; have NB160_158 := gt_ BK158 hg; have NB159_160 := lt_ BK159 hg; have NB160_159 := gt_ BK159 hg; replace BK158 := bk_ BK158 hb; replace BK159 := bk_ BK159 hb; replace HB := bs_ HB hb; clear hb hbox hg; have hnb28 := NB158_159.out; have hnc28 := NB159_158.out; have hnb29 := NB158_160.out; have hnc29 := NB160_158.out; obtain ⟨C30_0, C30_1, C30_2⟩ := zc3_ BK158.out; obtain ⟨F30_0, F30_1, F30_2⟩ := zf3_ BK158.out; have hnb31 := NB159_160.out; have hnc31 := NB160_159.out; obtain ⟨C32_0, C32_1, C32_2⟩ := zc3_ BK159.out; obtain ⟨F32_0, F32_1, F32_2⟩ := zf3_ BK159.out; obtain ⟨C33_0, C33_1, C33_2⟩ := zc3_ BK160.out; obtain ⟨F33_0, F33_1, F33_2⟩ := zf3_ BK160.out))
 refine bodyPost_ret (results_cell_row rfl _ _ gb160 35 #[.bool a1_0, .bool a1_1, .bool true] (0, 0) _ rfl (by (with_reducible repeat (first | refine Ag ?_ _ | refine Af ?_ | refine Ae ?_ _)); apply Cf; (with_reducible repeat (first | refine Ag ?_ _ | refine Af ?_ | refine Ae ?_ _)); exact BK160.out) Try.underlying35 rfl (by kernel_rfl)) rfl ?_
 exact en_ HB)
 ·(
 replace c24 := Dq c24
 subst c24
 have H1 : (some (a1_0, a1_1, a1_2)) = some (r1, r2, r3) := by rw [if_neg (show ¬ (false = true) by decide)] at H; exact H
 clear H
 have H := H1
 clear H1
 simp only [Option.some.injEq, Prod.mk.injEq] at H
 obtain ⟨rfl, rfl, rfl⟩ := H
 go_enter Try.func52, Try.ntmps52
 go_wp2_with (first | (refine bx_ (N := 2) (cs := #[.bool true, .bool false, .bool false]) (t := 35) ?_; intro gb158 hg w34 hbox hb; have BK158 := Aa.mk (hbox); have GW158 := ge_ HB hg; have GE158 := ge_ HB hg; replace HB := bs_ HB hb; clear hb hbox hg) | (refine bx_ (N := 3) (cs := #[.bool a1_0, .bool a1_1, .bool a1_2]) (t := 35) ?_; intro gb159 hg w35 hbox hb; have BK159 := Aa.mk (hbox); have GW159 := ge_ HB hg; have GE159 := ge_ HB hg; have NB158_159 := lt_ BK158 hg; have NB159_158 := gt_ BK158 hg; replace BK158 := bk_ BK158 hb; replace HB := bs_ HB hb; clear hb hbox hg) | (refine bx_ (N := 4) (cs := #[.bool false, .bool false, .bool false]) (t := 35) ?_; intro gb160 hg w36 hbox hb; have BK160 := Aa.mk (hbox); have GW160 := ge_ HB hg; have GE160 := ge_ HB hg; have NB158_160 := lt_ BK158 hg; have NB160_158 := gt_ BK158 hg; have NB159_160 := lt_ BK159 hg; have NB160_159 := gt_ BK159 hg; replace BK158 := bk_ BK158 hb; replace BK159 := bk_ BK159 hb; replace HB := bs_ HB hb; clear hb hbox hg; have hnb37 := NB158_159.out; have hnc37 := NB159_158.out; have hnb38 := NB158_160.out; have hnc38 := NB160_158.out; obtain ⟨C39_0, C39_1, C39_2⟩ := zc3_ BK158.out; obtain ⟨F39_0, F39_1, F39_2⟩ := zf3_ BK158.out; have hnb40 := NB159_160.out; have hnc40 := NB160_159.out; obtain ⟨C41_0, C41_1, C41_2⟩ := zc3_ BK159.out; obtain ⟨F41_0, F41_1, F41_2⟩ := zf3_ BK159.out; obtain ⟨C42_0, C42_1, C42_2⟩ := zc3_ BK160.out; obtain ⟨F42_0, F42_1, F42_2⟩ := zf3_ BK160.out))
 refine bodyPost_ret (results_cell_row rfl _ _ gb160 35 #[.bool a1_0, .bool a1_1, .bool a1_2] (0, 0) _ rfl (by (with_reducible repeat (first | refine Ag ?_ _ | refine Af ?_ | refine Ae ?_ _)); apply Cf; (with_reducible repeat (first | refine Ag ?_ _ | refine Af ?_ | refine Ae ?_ _)); exact BK160.out) Try.underlying35 rfl (by kernel_rfl)) rfl ?_
 exact en_ HB)))
 ·(
 replace c3 := Dq c3
 subst c3
 have H1 : (if a0_1 = true then (if a0_2 = true then (some (false, true, true)) else (some (false, true, a1_2))) else (if a0_2 = true then (some (false, a1_1, true)) else (some (false, a1_1, a1_2)))) = some (r1, r2, r3) := by rw [if_neg (show ¬ (false = true) by decide)] at H; exact H
 clear H
 have H := H1
 clear H1
 by_cases c43 : a0_1 = true
 ·(
 subst c43
 have H1 : (if a0_2 = true then (some (false, true, true)) else (some (false, true, a1_2))) = some (r1, r2, r3) := by rw [if_pos rfl] at H; exact H
 clear H
 have H := H1
 clear H1
 by_cases c44 : a0_2 = true
 ·(
 subst c44
 have H1 : (some (false, true, true)) = some (r1, r2, r3) := by rw [if_pos rfl] at H; exact H
 clear H
 have H := H1
 clear H1
 simp only [Option.some.injEq, Prod.mk.injEq] at H
 obtain ⟨rfl, rfl, rfl⟩ := H
 go_enter Try.func52, Try.ntmps52
 go_wp2_with (first | (refine bx_ (N := 2) (cs := #[.bool false, .bool true, .bool true]) (t := 35) ?_; intro gb158 hg w45 hbox hb; have BK158 := Aa.mk (hbox); have GW158 := ge_ HB hg; have GE158 := ge_ HB hg; replace HB := bs_ HB hb; clear hb hbox hg) | (refine bx_ (N := 3) (cs := #[.bool a1_0, .bool a1_1, .bool a1_2]) (t := 35) ?_; intro gb159 hg w46 hbox hb; have BK159 := Aa.mk (hbox); have GW159 := ge_ HB hg; have GE159 := ge_ HB hg; have NB158_159 := lt_ BK158 hg; have NB159_158 := gt_ BK158 hg; replace BK158 := bk_ BK158 hb; replace HB := bs_ HB hb; clear hb hbox hg) | (refine bx_ (N := 4) (cs := #[.bool false, .bool false, .bool false]) (t := 35) ?_; intro gb160 hg w47 hbox hb; have BK160 := Aa.mk (hbox); have GW160 := ge_ HB hg; have GE160 := ge_ HB hg; have NB158_160 := lt_ BK158 hg; have NB160_158 := gt_ BK158 hg; have NB159_160 := lt_ BK159 hg; have NB160_159 := gt_ BK159 hg; replace BK158 := bk_ BK158 hb; replace BK159 := bk_ BK159 hb; replace HB := bs_ HB hb; clear hb hbox hg; have hnb48 := NB158_159.out; have hnc48 := NB159_158.out; have hnb49 := NB158_160.out; have hnc49 := NB160_158.out; obtain ⟨C50_0, C50_1, C50_2⟩ := zc3_ BK158.out; obtain ⟨F50_0, F50_1, F50_2⟩ := zf3_ BK158.out; have hnb51 := NB160_159.out; have hnc51 := NB159_160.out; obtain ⟨C52_0, C52_1, C52_2⟩ := zc3_ BK160.out; obtain ⟨F52_0, F52_1, F52_2⟩ := zf3_ BK160.out))
 refine bodyPost_ret (results_cell_row rfl _ _ gb160 35 #[.bool false, .bool true, .bool true] (0, 0) _ rfl (by (with_reducible repeat (first | refine Ag ?_ _ | refine Af ?_ | refine Ae ?_ _)); apply Cf; (with_reducible repeat (first | refine Ag ?_ _ | refine Af ?_ | refine Ae ?_ _)); exact BK160.out) Try.underlying35 rfl (by kernel_rfl)) rfl ?_
 exact en_ HB)
 ·(
 replace c44 := Dq c44
 subst c44
 have H1 : (some (false, true, a1_2)) = some (r1, r2, r3) := by rw [if_neg (show ¬ (false = true) by decide)] at H; exact H
 clear H
 have H := H1
 clear H1
 simp only [Option.some.injEq, Prod.mk.injEq] at H
 obtain ⟨rfl, rfl, rfl⟩ := H
 go_enter Try.func52, Try.ntmps52
 go_wp2_with (first | (refine bx_ (N := 2) (cs := #[.bool false, .bool true, .bool false]) (t := 35) ?_; intro gb158 hg w53 hbox hb; have BK158 := Aa.mk (hbox); have GW158 := ge_ HB hg; have GE158 := ge_ HB hg; replace HB := bs_ HB hb; clear hb hbox hg) | (refine bx_ (N := 3) (cs := #[.bool a1_0, .bool a1_1, .bool a1_2]) (t := 35) ?_; intro gb159 hg w54 hbox hb; have BK159 := Aa.mk (hbox); have GW159 := ge_ HB hg; have GE159 := ge_ HB hg; have NB158_159 := lt_ BK158 hg; have NB159_158 := gt_ BK158 hg; replace BK158 := bk_ BK158 hb; replace HB := bs_ HB hb; clear hb hbox hg) | (refine bx_ (N := 4) (cs := #[.bool false, .bool false, .bool false]) (t := 35) ?_; intro gb160 hg w55 hbox hb; have BK160 := Aa.mk (hbox); have GW160 := ge_ HB hg; have GE160 := ge_ HB hg; have NB158_160 := lt_ BK158 hg; have NB160_158 := gt_ BK158 hg; have NB159_160 := lt_ BK159 hg; have NB160_159 := gt_ BK159 hg; replace BK158 := bk_ BK158 hb; replace BK159 := bk_ BK159 hb; replace HB := bs_ HB hb; clear hb hbox hg; have hnb56 := NB158_159.out; have hnc56 := NB159_158.out; have hnb57 := NB158_160.out; have hnc57 := NB160_158.out; obtain ⟨C58_0, C58_1, C58_2⟩ := zc3_ BK158.out; obtain ⟨F58_0, F58_1, F58_2⟩ := zf3_ BK158.out; have hnb59 := NB159_160.out; have hnc59 := NB160_159.out; obtain ⟨C60_0, C60_1, C60_2⟩ := zc3_ BK159.out; obtain ⟨F60_0, F60_1, F60_2⟩ := zf3_ BK159.out; obtain ⟨C61_0, C61_1, C61_2⟩ := zc3_ BK160.out; obtain ⟨F61_0, F61_1, F61_2⟩ := zf3_ BK160.out))
 refine bodyPost_ret (results_cell_row rfl _ _ gb160 35 #[.bool false, .bool true, .bool a1_2] (0, 0) _ rfl (by (with_reducible repeat (first | refine Ag ?_ _ | refine Af ?_ | refine Ae ?_ _)); apply Cf; (with_reducible repeat (first | refine Ag ?_ _ | refine Af ?_ | refine Ae ?_ _)); exact BK160.out) Try.underlying35 rfl (by kernel_rfl)) rfl ?_
 exact en_ HB))
 ·(
 replace c43 := Dq c43
 subst c43
 have H1 : (if a0_2 = true then (some (false, a1_1, true)) else (some (false, a1_1, a1_2))) = some (r1, r2, r3) := by rw [if_neg (show ¬ (false = true) by decide)] at H; exact H
 clear H
 have H := H1
 clear H1
 by_cases c62 : a0_2 = true
 ·(
 subst c62
 have H1 : (some (false, a1_1, true)) = some (r1, r2, r3) := by rw [if_pos rfl] at H; exact H
 clear H
 have H := H1
 clear H1
 simp only [Option.some.injEq, Prod.mk.injEq] at H
 obtain ⟨rfl, rfl, rfl⟩ := H
 go_enter Try.func52, Try.ntmps52
 go_wp2_with (first | (refine bx_ (N := 2) (cs := #[.bool false, .bool false, .bool true]) (t := 35) ?_; intro gb158 hg w63 hbox hb; have BK158 := Aa.mk (hbox); have GW158 := ge_ HB hg; have GE158 := ge_ HB hg; replace HB := bs_ HB hb; clear hb hbox hg) | (refine bx_ (N := 3) (cs := #[.bool a1_0, .bool a1_1, .bool a1_2]) (t := 35) ?_; intro gb159 hg w64 hbox hb; have BK159 := Aa.mk (hbox); have GW159 := ge_ HB hg; have GE159 := ge_ HB hg; have NB158_159 := lt_ BK158 hg; have NB159_158 := gt_ BK158 hg; replace BK158 := bk_ BK158 hb; replace HB := bs_ HB hb; clear hb hbox hg) | (refine bx_ (N := 4) (cs := #[.bool false, .bool false, .bool false]) (t := 35) ?_; intro gb160 hg w65 hbox hb; have BK160 := Aa.mk (hbox); have GW160 := ge_ HB hg; have GE160 := ge_ HB hg; have NB158_160 := lt_ BK158 hg; have NB160_158 := gt_ BK158 hg; have NB159_160 := lt_ BK159 hg; have NB160_159 := gt_ BK159 hg; replace BK158 := bk_ BK158 hb; replace BK159 := bk_ BK159 hb; replace HB := bs_ HB hb; clear hb hbox hg; have hnb66 := NB158_159.out; have hnc66 := NB159_158.out; have hnb67 := NB158_160.out; have hnc67 := NB160_158.out; obtain ⟨C68_0, C68_1, C68_2⟩ := zc3_ BK158.out; obtain ⟨F68_0, F68_1, F68_2⟩ := zf3_ BK158.out; have hnb69 := NB159_160.out; have hnc69 := NB160_159.out; obtain ⟨C70_0, C70_1, C70_2⟩ := zc3_ BK159.out; obtain ⟨F70_0, F70_1, F70_2⟩ := zf3_ BK159.out; obtain ⟨C71_0, C71_1, C71_2⟩ := zc3_ BK160.out; obtain ⟨F71_0, F71_1, F71_2⟩ := zf3_ BK160.out))
 refine bodyPost_ret (results_cell_row rfl _ _ gb160 35 #[.bool false, .bool a1_1, .bool true] (0, 0) _ rfl (by (with_reducible repeat (first | refine Ag ?_ _ | refine Af ?_ | refine Ae ?_ _)); apply Cf; (with_reducible repeat (first | refine Ag ?_ _ | refine Af ?_ | refine Ae ?_ _)); exact BK160.out) Try.underlying35 rfl (by kernel_rfl)) rfl ?_
 exact en_ HB)
 ·(
 replace c62 := Dq c62
 subst c62
 have H1 : (some (false, a1_1, a1_2)) = some (r1, r2, r3) := by rw [if_neg (show ¬ (false = true) by decide)] at H; exact H
 clear H
 have H := H1
 clear H1
 simp only [Option.some.injEq, Prod.mk.injEq] at H
 obtain ⟨rfl, rfl, rfl⟩ := H
 go_enter Try.func52, Try.ntmps52
 go_wp2_with (first | (refine bx_ (N := 2) (cs := #[.bool false, .bool false, .bool false]) (t := 35) ?_; intro gb158 hg w72 hbox hb; have BK158 := Aa.mk (hbox); have GW158 := ge_ HB hg; have GE158 := ge_ HB hg; replace HB := bs_ HB hb; clear hb hbox hg) | (refine bx_ (N := 3) (cs := #[.bool a1_0, .bool a1_1, .bool a1_2]) (t := 35) ?_; intro gb159 hg w73 hbox hb; have BK159 := Aa.mk (hbox); have GW159 := ge_ HB hg; have GE159 := ge_ HB hg; have NB158_159 := lt_ BK158 hg; have NB159_158 := gt_ BK158 hg; replace BK158 := bk_ BK158 hb; replace HB := bs_ HB hb; clear hb hbox hg) | (refine bx_ (N := 4) (cs := #[.bool false, .bool false, .bool false]) (t := 35) ?_; intro gb160 hg w74 hbox hb; have BK160 := Aa.mk (hbox); have GW160 := ge_ HB hg; have GE160 := ge_ HB hg; have NB158_160 := lt_ BK158 hg; have NB160_158 := gt_ BK158 hg; have NB159_160 := lt_ BK159 hg; have NB160_159 := gt_ BK159 hg; replace BK158 := bk_ BK158 hb; replace BK159 := bk_ BK159 hb; replace HB := bs_ HB hb; clear hb hbox hg; have hnb75 := NB158_159.out; have hnc75 := NB159_158.out; have hnb76 := NB158_160.out; have hnc76 := NB160_158.out; obtain ⟨C77_0, C77_1, C77_2⟩ := zc3_ BK158.out; obtain ⟨F77_0, F77_1, F77_2⟩ := zf3_ BK158.out; have hnb78 := NB159_160.out; have hnc78 := NB160_159.out; obtain ⟨C79_0, C79_1, C79_2⟩ := zc3_ BK159.out; obtain ⟨F79_0, F79_1, F79_2⟩ := zf3_ BK159.out; obtain ⟨C80_0, C80_1, C80_2⟩ := zc3_ BK160.out; obtain ⟨F80_0, F80_1, F80_2⟩ := zf3_ BK160.out))
 refine bodyPost_ret (results_cell_row rfl _ _ gb160 35 #[.bool false, .bool a1_1, .bool a1_2] (0, 0) _ rfl (by (with_reducible repeat (first | refine Ag ?_ _ | refine Af ?_ | refine Ae ?_ _)); apply Cf; (with_reducible repeat (first | refine Ag ?_ _ | refine Af ?_ | refine Ae ?_ _)); exact BK160.out) Try.underlying35 rfl (by kernel_rfl)) rfl ?_
 exact en_ HB)))
def De.f (k : Nat) (a0_0 : Int) (a0_1 : Int) (a0_2 : Bool) (a0_3 : Int) (a0_4 : ByteArray) (a0_5 : Bool) (a0_6 : Int) (a0_7 : ByteArray) (a1_0 : Bool) (a1_1 : Int) (a1_2 : ByteArray) : Option (Bool) := if a1_0 = true then (some (decide (a0_1 > 0))) else ((Cx.f a0_0 a0_1 a0_2 a0_3 a0_4 a0_5 a0_6 a0_7).bind fun t163 => (if t163 = true then ((Bl.f k a1_0 a1_1 a1_2 a0_2 a0_3 a0_4).bind fun t164 => (if t164 ≥ 0 then ((Bl.f k a1_0 a1_1 a1_2 a0_5 a0_6 a0_7).bind fun t165 => (some (decide (t165 ≤ 0)))) else (some false))) else (some false)))
theorem De.mono : ∀ a0 a1 a2 a3 a4 a5 a6 a7 a8 a9 a10 k, LeO (De.f k a0 a1 a2 a3 a4 a5 a6 a7 a8 a9 a10) (De.f (k + 1) a0 a1 a2 a3 a4 a5 a6 a7 a8 a9 a10) := by
 intro a0 a1 a2 a3 a4 a5 a6 a7 a8 a9 a10 k
 unfold De.f
 repeat' first|(with_reducible first|exact Bl.mono _ _ _ _ _ _ _|exact LeO.refl _|exact LeO.none _|refine LeO.ite ?_ ?_|refine LeO.bind ?_ fun _=>?_)|exact Bl.mono _ _ _ _ _ _ _|exact LeO.none _|refine LeO.ite ?_ ?_|refine LeO.bind ?_ fun _=>?_
theorem De.calls (k : Nat) (a0_0 : Int) (a0_1 : Int) (a0_2 : Bool) (a0_3 : Int) (a0_4 : ByteArray) (a0_5 : Bool) (a0_6 : Int) (a0_7 : ByteArray) (a1_0 : Bool) (a1_1 : Int) (a1_2 : ByteArray) (r : Bool) (w : World) (h : De.f k a0_0 a0_1 a0_2 a0_3 a0_4 a0_5 a0_6 a0_7 a1_0 a1_1 a1_2 = some r) :
  Calls Try.prog 97 #[.agg #[.int .i64 a0_0, .int .i64 a0_1, .bool a0_2, .int .i64 a0_3, .string a0_4, .bool a0_5, .int .i64 a0_6, .string a0_7], .agg #[.bool a1_0, .int .i64 a1_1, .string a1_2]] w fun e w' => e = .returned (.bool r) ∧ Below w.heap.size w w' := by
 have hu33 := Try.underlying33
 have hu24 := Try.underlying24
 have HB := Aa.mk (Below.refl w.heap.size w)
 have H : (if a1_0 = true then (some (decide (a0_1 > 0))) else ((Cx.f a0_0 a0_1 a0_2 a0_3 a0_4 a0_5 a0_6 a0_7).bind fun t163 => (if t163 = true then ((Bl.f k a1_0 a1_1 a1_2 a0_2 a0_3 a0_4).bind fun t164 => (if t164 ≥ 0 then ((Bl.f k a1_0 a1_1 a1_2 a0_5 a0_6 a0_7).bind fun t165 => (some (decide (t165 ≤ 0)))) else (some false))) else (some false)))) = some r := h
 clear h
 by_cases c3 : a1_0 = true
 ·(
 subst c3
 have H1 : (some (decide (a0_1 > 0))) = some r := by rw [if_pos rfl] at H; exact H
 clear H
 have H := H1
 clear H1
 obtain rfl := Dp H
 go_enter Try.func97, Try.ntmps97
 go_wp2_with (first | (refine bx_ (N := 2) (cs := #[.int .i64 a0_0, .int .i64 a0_1, .bool a0_2, .int .i64 a0_3, .string a0_4, .bool a0_5, .int .i64 a0_6, .string a0_7]) (t := 33) ?_; intro gb161 hg w4 hbox hb; have BK161 := Aa.mk (hbox); have GW161 := ge_ HB hg; have GE161 := ge_ HB hg; replace HB := bs_ HB hb; clear hb hbox hg) | (refine bx_ (N := 3) (cs := #[.bool true, .int .i64 a1_1, .string a1_2]) (t := 24) ?_; intro gb162 hg w5 hbox hb; have BK162 := Aa.mk (hbox); have GW162 := ge_ HB hg; have GE162 := ge_ HB hg; have NB161_162 := lt_ BK161 hg; have NB162_161 := gt_ BK161 hg; replace BK161 := bk_ BK161 hb; replace HB := bs_ HB hb; clear hb hbox hg; have hnb6 := NB162_161.out; have hnc6 := NB161_162.out; obtain ⟨C7_0, C7_1, C7_2⟩ := zc3_ BK162.out; obtain ⟨F7_0, F7_1, F7_2⟩ := zf3_ BK162.out; obtain ⟨C8_0, C8_1, C8_2, C8_3, C8_4, C8_5, C8_6, C8_7⟩ := zc8_ BK161.out; obtain ⟨F8_0, F8_1, F8_2, F8_3, F8_4, F8_5, F8_6, F8_7⟩ := zf8_ BK161.out))
 go_ret
 exact en_ HB)
 ·(
 replace c3 := Dq c3
 subst c3
 have H1 : ((Cx.f a0_0 a0_1 a0_2 a0_3 a0_4 a0_5 a0_6 a0_7).bind fun t163 => (if t163 = true then ((Bl.f k false a1_1 a1_2 a0_2 a0_3 a0_4).bind fun t164 => (if t164 ≥ 0 then ((Bl.f k false a1_1 a1_2 a0_5 a0_6 a0_7).bind fun t165 => (some (decide (t165 ≤ 0)))) else (some false))) else (some false))) = some r := by rw [if_neg (show ¬ (false = true) by decide)] at H; exact H
 clear H
 have H := H1
 clear H1
 replace H := Dn H
 obtain ⟨t163, A90, H⟩ := H
 replace H : (if t163 = true then ((Bl.f k false a1_1 a1_2 a0_2 a0_3 a0_4).bind fun t164 => (if t164 ≥ 0 then ((Bl.f k false a1_1 a1_2 a0_5 a0_6 a0_7).bind fun t165 => (some (decide (t165 ≤ 0)))) else (some false))) else (some false)) = some r := H
 have A9 := Aa.mk A90
 clear A90
 by_cases c10 : t163 = true
 ·(
 subst c10
 have H1 : ((Bl.f k false a1_1 a1_2 a0_2 a0_3 a0_4).bind fun t164 => (if t164 ≥ 0 then ((Bl.f k false a1_1 a1_2 a0_5 a0_6 a0_7).bind fun t165 => (some (decide (t165 ≤ 0)))) else (some false))) = some r := by rw [if_pos rfl] at H; exact H
 clear H
 have H := H1
 clear H1
 replace H := Dn H
 obtain ⟨t164, A110, H⟩ := H
 replace H : (if t164 ≥ 0 then ((Bl.f k false a1_1 a1_2 a0_5 a0_6 a0_7).bind fun t165 => (some (decide (t165 ≤ 0)))) else (some false)) = some r := H
 have A11 := Aa.mk A110
 clear A110
 by_cases c12 : t164 ≥ 0
 ·(
 rw [if_pos c12] at H
 have c12b0 : decide (0 ≤ t164) = true := decide_eq_true c12
 clear c12
 replace H := Dn H
 obtain ⟨t165, A130, H⟩ := H
 replace H : (some (decide (t165 ≤ 0))) = some r := H
 have A13 := Aa.mk A130
 clear A130
 obtain rfl := Dp H
 go_enter Try.func97, Try.ntmps97
 go_wp2_with (first | (refine bx_ (N := 2) (cs := #[.int .i64 a0_0, .int .i64 a0_1, .bool a0_2, .int .i64 a0_3, .string a0_4, .bool a0_5, .int .i64 a0_6, .string a0_7]) (t := 33) ?_; intro gb161 hg w14 hbox hb; have BK161 := Aa.mk (hbox); have GW161 := ge_ HB hg; have GE161 := ge_ HB hg; replace HB := bs_ HB hb; clear hb hbox hg) | (refine bx_ (N := 3) (cs := #[.bool false, .int .i64 a1_1, .string a1_2]) (t := 24) ?_; intro gb162 hg w15 hbox hb; have BK162 := Aa.mk (hbox); have GW162 := ge_ HB hg; have GE162 := ge_ HB hg; have NB161_162 := lt_ BK161 hg; have NB162_161 := gt_ BK161 hg; replace BK161 := bk_ BK161 hb; replace HB := bs_ HB hb; clear hb hbox hg; have hnb16 := NB162_161.out; have hnc16 := NB161_162.out; obtain ⟨C17_0, C17_1, C17_2⟩ := zc3_ BK162.out; obtain ⟨F17_0, F17_1, F17_2⟩ := zf3_ BK162.out; obtain ⟨C18_0, C18_1, C18_2, C18_3, C18_4, C18_5, C18_6, C18_7⟩ := zc8_ BK161.out; obtain ⟨F18_0, F18_1, F18_2, F18_3, F18_4, F18_5, F18_6, F18_7⟩ := zf8_ BK161.out) | ((with_reducible refine Aw (f := 48) rfl ?_); refine gl_ (some 11) rfl Try.func48 #[.agg #[.int .i64 a0_0, .int .i64 a0_1, .bool a0_2, .int .i64 a0_3, .string a0_4, .bool a0_5, .int .i64 a0_6, .string a0_7]] ?_; (with_reducible refine (Cx.calls a0_0 a0_1 a0_2 a0_3 a0_4 a0_5 a0_6 a0_7 true _ A9.out).mono ?_); rintro e w19 ⟨rfl, hb⟩; refine ⟨_, rfl, ?_⟩;  replace BK161 := bk_ BK161 hb; replace BK162 := bk_ BK162 hb; replace HB := bs_ HB hb; (try clear hb); obtain ⟨C20_0, C20_1, C20_2⟩ := zc3_ BK162.out; obtain ⟨F20_0, F20_1, F20_2⟩ := zf3_ BK162.out; obtain ⟨C21_0, C21_1, C21_2, C21_3, C21_4, C21_5, C21_6, C21_7⟩ := zc8_ BK161.out; obtain ⟨F21_0, F21_1, F21_2, F21_3, F21_4, F21_5, F21_6, F21_7⟩ := zf8_ BK161.out) | (go_at_call 50; (with_reducible refine (Bl.calls k false a1_1 a1_2 a0_2 a0_3 a0_4 t164 _ A11.out).mono ?_); rintro e w22 ⟨rfl, hb⟩;  replace BK161 := bk_ BK161 hb; replace BK162 := bk_ BK162 hb; replace HB := bs_ HB hb; (try clear hb); obtain ⟨C23_0, C23_1, C23_2⟩ := zc3_ BK162.out; obtain ⟨F23_0, F23_1, F23_2⟩ := zf3_ BK162.out; obtain ⟨C24_0, C24_1, C24_2, C24_3, C24_4, C24_5, C24_6, C24_7⟩ := zc8_ BK161.out; obtain ⟨F24_0, F24_1, F24_2, F24_3, F24_4, F24_5, F24_6, F24_7⟩ := zf8_ BK161.out) | (go_at_call 50; (with_reducible refine (Bl.calls k false a1_1 a1_2 a0_5 a0_6 a0_7 t165 _ A13.out).mono ?_); rintro e w25 ⟨rfl, hb⟩;  replace BK161 := bk_ BK161 hb; replace BK162 := bk_ BK162 hb; replace HB := bs_ HB hb; (try clear hb)))
 go_ret
 exact en_ HB)
 ·(
 rw [if_neg c12] at H
 have c12b0 : decide (0 ≤ t164) = false := decide_eq_false c12
 clear c12
 obtain rfl := Dp H
 go_enter Try.func97, Try.ntmps97
 go_wp2_with (first | (refine bx_ (N := 2) (cs := #[.int .i64 a0_0, .int .i64 a0_1, .bool a0_2, .int .i64 a0_3, .string a0_4, .bool a0_5, .int .i64 a0_6, .string a0_7]) (t := 33) ?_; intro gb161 hg w26 hbox hb; have BK161 := Aa.mk (hbox); have GW161 := ge_ HB hg; have GE161 := ge_ HB hg; replace HB := bs_ HB hb; clear hb hbox hg) | (refine bx_ (N := 3) (cs := #[.bool false, .int .i64 a1_1, .string a1_2]) (t := 24) ?_; intro gb162 hg w27 hbox hb; have BK162 := Aa.mk (hbox); have GW162 := ge_ HB hg; have GE162 := ge_ HB hg; have NB161_162 := lt_ BK161 hg; have NB162_161 := gt_ BK161 hg; replace BK161 := bk_ BK161 hb; replace HB := bs_ HB hb; clear hb hbox hg; have hnb28 := NB162_161.out; have hnc28 := NB161_162.out; obtain ⟨C29_0, C29_1, C29_2⟩ := zc3_ BK162.out; obtain ⟨F29_0, F29_1, F29_2⟩ := zf3_ BK162.out; obtain ⟨C30_0, C30_1, C30_2, C30_3, C30_4, C30_5, C30_6, C30_7⟩ := zc8_ BK161.out; obtain ⟨F30_0, F30_1, F30_2, F30_3, F30_4, F30_5, F30_6, F30_7⟩ := zf8_ BK161.out) | ((with_reducible refine Aw (f := 48) rfl ?_); refine gl_ (some 11) rfl Try.func48 #[.agg #[.int .i64 a0_0, .int .i64 a0_1, .bool a0_2, .int .i64 a0_3, .string a0_4, .bool a0_5, .int .i64 a0_6, .string a0_7]] ?_; (with_reducible refine (Cx.calls a0_0 a0_1 a0_2 a0_3 a0_4 a0_5 a0_6 a0_7 true _ A9.out).mono ?_); rintro e w31 ⟨rfl, hb⟩; refine ⟨_, rfl, ?_⟩;  replace BK161 := bk_ BK161 hb; replace BK162 := bk_ BK162 hb; replace HB := bs_ HB hb; (try clear hb); obtain ⟨C32_0, C32_1, C32_2⟩ := zc3_ BK162.out; obtain ⟨F32_0, F32_1, F32_2⟩ := zf3_ BK162.out; obtain ⟨C33_0, C33_1, C33_2, C33_3, C33_4, C33_5, C33_6, C33_7⟩ := zc8_ BK161.out; obtain ⟨F33_0, F33_1, F33_2, F33_3, F33_4, F33_5, F33_6, F33_7⟩ := zf8_ BK161.out) | (go_at_call 50; (with_reducible refine (Bl.calls k false a1_1 a1_2 a0_2 a0_3 a0_4 t164 _ A11.out).mono ?_); rintro e w34 ⟨rfl, hb⟩;  replace BK161 := bk_ BK161 hb; replace BK162 := bk_ BK162 hb; replace HB := bs_ HB hb; (try clear hb)))
 go_ret
 exact en_ HB))
 ·(
 replace c10 := Dq c10
 subst c10
 have H1 : (some false) = some r := by rw [if_neg (show ¬ (false = true) by decide)] at H; exact H
 clear H
 have H := H1
 clear H1
 obtain rfl := Dp H
 go_enter Try.func97, Try.ntmps97
 go_wp2_with (first | (refine bx_ (N := 2) (cs := #[.int .i64 a0_0, .int .i64 a0_1, .bool a0_2, .int .i64 a0_3, .string a0_4, .bool a0_5, .int .i64 a0_6, .string a0_7]) (t := 33) ?_; intro gb161 hg w35 hbox hb; have BK161 := Aa.mk (hbox); have GW161 := ge_ HB hg; have GE161 := ge_ HB hg; replace HB := bs_ HB hb; clear hb hbox hg) | (refine bx_ (N := 3) (cs := #[.bool false, .int .i64 a1_1, .string a1_2]) (t := 24) ?_; intro gb162 hg w36 hbox hb; have BK162 := Aa.mk (hbox); have GW162 := ge_ HB hg; have GE162 := ge_ HB hg; have NB161_162 := lt_ BK161 hg; have NB162_161 := gt_ BK161 hg; replace BK161 := bk_ BK161 hb; replace HB := bs_ HB hb; clear hb hbox hg; have hnb37 := NB162_161.out; have hnc37 := NB161_162.out; obtain ⟨C38_0, C38_1, C38_2⟩ := zc3_ BK162.out; obtain ⟨F38_0, F38_1, F38_2⟩ := zf3_ BK162.out; obtain ⟨C39_0, C39_1, C39_2, C39_3, C39_4, C39_5, C39_6, C39_7⟩ := zc8_ BK161.out; obtain ⟨F39_0, F39_1, F39_2, F39_3, F39_4, F39_5, F39_6, F39_7⟩ := zf8_ BK161.out) | ((with_reducible refine Aw (f := 48) rfl ?_); refine gl_ (some 11) rfl Try.func48 #[.agg #[.int .i64 a0_0, .int .i64 a0_1, .bool a0_2, .int .i64 a0_3, .string a0_4, .bool a0_5, .int .i64 a0_6, .string a0_7]] ?_; (with_reducible refine (Cx.calls a0_0 a0_1 a0_2 a0_3 a0_4 a0_5 a0_6 a0_7 false _ A9.out).mono ?_); rintro e w40 ⟨rfl, hb⟩; refine ⟨_, rfl, ?_⟩;  replace BK161 := bk_ BK161 hb; replace BK162 := bk_ BK162 hb; replace HB := bs_ HB hb; (try clear hb)))
 go_ret
 exact en_ HB))
attribute [local go_sem high] eqA24
def Cr.f (k : Nat) (a0_0 : Int) (a0_1 : Int) (a0_2 : Bool) (a0_3 : Int) (a0_4 : ByteArray) (a0_5 : Bool) (a0_6 : Int) (a0_7 : ByteArray) (a1 : Int) (a2_0 : Bool) (a2_1 : Int) (a2_2 : ByteArray) : Option (Bool) := if a1 = 1 then ((De.f k a0_0 a0_1 a0_2 a0_3 a0_4 a0_5 a0_6 a0_7 a2_0 a2_1 a2_2).bind fun t168 => (some t168)) else (if a1 = 2 then (if (!(a0_2 == a2_0) || (!(a0_3 == a2_1) || (!(a0_4.toList == a2_2.toList)))) = true then (some true) else (some (!(a0_5 == a2_0) || (!(a0_6 == a2_1) || (!(a0_7.toList == a2_2.toList)))))) else (if a1 = 3 then ((Bl.f k a0_2 a0_3 a0_4 a2_0 a2_1 a2_2).bind fun t169 => (some (decide (t169 < 0)))) else (if a1 = 4 then ((Bl.f k a0_2 a0_3 a0_4 a2_0 a2_1 a2_2).bind fun t170 => (some (decide (t170 ≤ 0)))) else (if a1 = 5 then ((Bl.f k a0_5 a0_6 a0_7 a2_0 a2_1 a2_2).bind fun t171 => (some (decide (t171 > 0)))) else ((Bl.f k a0_5 a0_6 a0_7 a2_0 a2_1 a2_2).bind fun t172 => (some (decide (t172 ≥ 0))))))))
theorem Cr.mono : ∀ a0 a1 a2 a3 a4 a5 a6 a7 a8 a9 a10 a11 k, LeO (Cr.f k a0 a1 a2 a3 a4 a5 a6 a7 a8 a9 a10 a11) (Cr.f (k + 1) a0 a1 a2 a3 a4 a5 a6 a7 a8 a9 a10 a11) := by
 intro a0 a1 a2 a3 a4 a5 a6 a7 a8 a9 a10 a11 k
 unfold Cr.f
 repeat' first|(with_reducible first|exact Bl.mono _ _ _ _ _ _ _|exact De.mono _ _ _ _ _ _ _ _ _ _ _ _|exact LeO.refl _|exact LeO.none _|refine LeO.ite ?_ ?_|refine LeO.bind ?_ fun _=>?_)|exact Bl.mono _ _ _ _ _ _ _|exact De.mono _ _ _ _ _ _ _ _ _ _ _ _|exact LeO.none _|refine LeO.ite ?_ ?_|refine LeO.bind ?_ fun _=>?_
theorem Cr.calls (k : Nat) (a0_0 : Int) (a0_1 : Int) (a0_2 : Bool) (a0_3 : Int) (a0_4 : ByteArray) (a0_5 : Bool) (a0_6 : Int) (a0_7 : ByteArray) (a1 : Int) (a2_0 : Bool) (a2_1 : Int) (a2_2 : ByteArray) (r : Bool) (w : World) (h : Cr.f k a0_0 a0_1 a0_2 a0_3 a0_4 a0_5 a0_6 a0_7 a1 a2_0 a2_1 a2_2 = some r) :
  Calls Try.prog 75 #[.agg #[.int .i64 a0_0, .int .i64 a0_1, .bool a0_2, .int .i64 a0_3, .string a0_4, .bool a0_5, .int .i64 a0_6, .string a0_7], .int .i64 a1, .agg #[.bool a2_0, .int .i64 a2_1, .string a2_2]] w fun e w' => e = .returned (.bool r) ∧ Below w.heap.size w w' := by
 have hu33 := Try.underlying33
 have hu24 := Try.underlying24
 have HB := Aa.mk (Below.refl w.heap.size w)
 have H : (if a1 = 1 then ((De.f k a0_0 a0_1 a0_2 a0_3 a0_4 a0_5 a0_6 a0_7 a2_0 a2_1 a2_2).bind fun t168 => (some t168)) else (if a1 = 2 then (if (!(a0_2 == a2_0) || (!(a0_3 == a2_1) || (!(a0_4.toList == a2_2.toList)))) = true then (some true) else (some (!(a0_5 == a2_0) || (!(a0_6 == a2_1) || (!(a0_7.toList == a2_2.toList)))))) else (if a1 = 3 then ((Bl.f k a0_2 a0_3 a0_4 a2_0 a2_1 a2_2).bind fun t169 => (some (decide (t169 < 0)))) else (if a1 = 4 then ((Bl.f k a0_2 a0_3 a0_4 a2_0 a2_1 a2_2).bind fun t170 => (some (decide (t170 ≤ 0)))) else (if a1 = 5 then ((Bl.f k a0_5 a0_6 a0_7 a2_0 a2_1 a2_2).bind fun t171 => (some (decide (t171 > 0)))) else ((Bl.f k a0_5 a0_6 a0_7 a2_0 a2_1 a2_2).bind fun t172 => (some (decide (t172 ≥ 0))))))))) = some r := h
 clear h
 by_cases c4 : a1 = 1
 ·(
 rw [if_pos c4] at H
 have c4b0 : (a1 == 1) = true := Dl c4
 have c4b1 : (a1 != 1) = false := Dk c4
 clear c4
 replace H := Dn H
 obtain ⟨t168, A50, H⟩ := H
 replace H : (some t168) = some r := H
 have A5 := Aa.mk A50
 clear A50
 obtain rfl := Dp H
 go_enter Try.func75, Try.ntmps75
 go_wp2_with (first | (refine bx_ (N := 3) (cs := #[.int .i64 a0_0, .int .i64 a0_1, .bool a0_2, .int .i64 a0_3, .string a0_4, .bool a0_5, .int .i64 a0_6, .string a0_7]) (t := 33) ?_; intro gb166 hg w6 hbox hb; have BK166 := Aa.mk (hbox); have GW166 := ge_ HB hg; have GE166 := ge_ HB hg; replace HB := bs_ HB hb; clear hb hbox hg) | (refine bx_ (N := 5) (cs := #[.bool a2_0, .int .i64 a2_1, .string a2_2]) (t := 24) ?_; intro gb167 hg w7 hbox hb; have BK167 := Aa.mk (hbox); have GW167 := ge_ HB hg; have GE167 := ge_ HB hg; have NB166_167 := lt_ BK166 hg; have NB167_166 := gt_ BK166 hg; replace BK166 := bk_ BK166 hb; replace HB := bs_ HB hb; clear hb hbox hg; have hnb8 := NB166_167.out; have hnc8 := NB167_166.out; obtain ⟨C9_0, C9_1, C9_2, C9_3, C9_4, C9_5, C9_6, C9_7⟩ := zc8_ BK166.out; obtain ⟨F9_0, F9_1, F9_2, F9_3, F9_4, F9_5, F9_6, F9_7⟩ := zf8_ BK166.out; obtain ⟨C10_0, C10_1, C10_2⟩ := zc3_ BK167.out; obtain ⟨F10_0, F10_1, F10_2⟩ := zf3_ BK167.out) | ((with_reducible refine Aw (f := 97) rfl ?_); refine gl_ (some 12) rfl Try.func97 #[.agg #[.int .i64 a0_0, .int .i64 a0_1, .bool a0_2, .int .i64 a0_3, .string a0_4, .bool a0_5, .int .i64 a0_6, .string a0_7], .agg #[.bool a2_0, .int .i64 a2_1, .string a2_2]] ?_; (with_reducible refine (De.calls k a0_0 a0_1 a0_2 a0_3 a0_4 a0_5 a0_6 a0_7 a2_0 a2_1 a2_2 t168 _ A5.out).mono ?_); rintro e w11 ⟨rfl, hb⟩; refine ⟨_, rfl, ?_⟩;  replace BK166 := bk_ BK166 hb; replace BK167 := bk_ BK167 hb; replace HB := bs_ HB hb; (try clear hb)))
 go_ret
 exact en_ HB)
 ·(
 rw [if_neg c4] at H
 have c4b0 : (a1 == 1) = false := Dj c4
 have c4b1 : (a1 != 1) = true := Dm c4
 by_cases c12 : a1 = 2
 ·(
 rw [if_pos c12] at H
 have c12b0 : (a1 == 2) = true := Dl c12
 have c12b1 : (a1 != 2) = false := Dk c12
 clear c12
 by_cases c13 : (!(a0_2 == a2_0) || (!(a0_3 == a2_1) || (!(a0_4.toList == a2_2.toList)))) = true
 rotate_left
 focus(
 rw [if_neg c13] at H
 have c13b0 : (!(a0_2 == a2_0) || (!(a0_3 == a2_1) || (!(a0_4.toList == a2_2.toList)))) = false := by simpa using c13)
 rotate_right
 focus(
 rw [if_pos c13] at H
 have c13b0 : (!(a0_2 == a2_0) || (!(a0_3 == a2_1) || (!(a0_4.toList == a2_2.toList)))) = true := c13)
 all_goals(
 clear c13
 obtain rfl := Dp H
 go_enter Try.func75, Try.ntmps75
 go_wp2_with (first | (refine bx_ (N := 3) (cs := #[.int .i64 a0_0, .int .i64 a0_1, .bool a0_2, .int .i64 a0_3, .string a0_4, .bool a0_5, .int .i64 a0_6, .string a0_7]) (t := 33) ?_; intro gb166 hg w14 hbox hb; have BK166 := Aa.mk (hbox); have GW166 := ge_ HB hg; have GE166 := ge_ HB hg; replace HB := bs_ HB hb; clear hb hbox hg) | (refine bx_ (N := 5) (cs := #[.bool a2_0, .int .i64 a2_1, .string a2_2]) (t := 24) ?_; intro gb167 hg w15 hbox hb; have BK167 := Aa.mk (hbox); have GW167 := ge_ HB hg; have GE167 := ge_ HB hg; have NB166_167 := lt_ BK166 hg; have NB167_166 := gt_ BK166 hg; replace BK166 := bk_ BK166 hb; replace HB := bs_ HB hb; clear hb hbox hg; have hnb16 := NB166_167.out; have hnc16 := NB167_166.out; obtain ⟨C17_0, C17_1, C17_2, C17_3, C17_4, C17_5, C17_6, C17_7⟩ := zc8_ BK166.out; obtain ⟨F17_0, F17_1, F17_2, F17_3, F17_4, F17_5, F17_6, F17_7⟩ := zf8_ BK166.out; obtain ⟨C18_0, C18_1, C18_2⟩ := zc3_ BK167.out; obtain ⟨F18_0, F18_1, F18_2⟩ := zf3_ BK167.out))
 go_ret
 exact en_ HB))
 ·(
 rw [if_neg c12] at H
 have c12b0 : (a1 == 2) = false := Dj c12
 have c12b1 : (a1 != 2) = true := Dm c12
 by_cases c24 : a1 = 3
 ·(
 rw [if_pos c24] at H
 have c24b0 : (a1 == 3) = true := Dl c24
 have c24b1 : (a1 != 3) = false := Dk c24
 clear c24
 replace H := Dn H
 obtain ⟨t169, A250, H⟩ := H
 replace H : (some (decide (t169 < 0))) = some r := H
 have A25 := Aa.mk A250
 clear A250
 obtain rfl := Dp H
 go_enter Try.func75, Try.ntmps75
 go_wp2_with (first | (refine bx_ (N := 3) (cs := #[.int .i64 a0_0, .int .i64 a0_1, .bool a0_2, .int .i64 a0_3, .string a0_4, .bool a0_5, .int .i64 a0_6, .string a0_7]) (t := 33) ?_; intro gb166 hg w26 hbox hb; have BK166 := Aa.mk (hbox); have GW166 := ge_ HB hg; have GE166 := ge_ HB hg; replace HB := bs_ HB hb; clear hb hbox hg) | (refine bx_ (N := 5) (cs := #[.bool a2_0, .int .i64 a2_1, .string a2_2]) (t := 24) ?_; intro gb167 hg w27 hbox hb; have BK167 := Aa.mk (hbox); have GW167 := ge_ HB hg; have GE167 := ge_ HB hg; have NB166_167 := lt_ BK166 hg; have NB167_166 := gt_ BK166 hg; replace BK166 := bk_ BK166 hb; replace HB := bs_ HB hb; clear hb hbox hg; have hnb28 := NB166_167.out; have hnc28 := NB167_166.out; obtain ⟨C29_0, C29_1, C29_2, C29_3, C29_4, C29_5, C29_6, C29_7⟩ := zc8_ BK166.out; obtain ⟨F29_0, F29_1, F29_2, F29_3, F29_4, F29_5, F29_6, F29_7⟩ := zf8_ BK166.out; obtain ⟨C30_0, C30_1, C30_2⟩ := zc3_ BK167.out; obtain ⟨F30_0, F30_1, F30_2⟩ := zf3_ BK167.out) | ((with_reducible refine Aw (f := 50) rfl ?_); refine gl_ (some 30) rfl Try.func50 #[.agg #[.bool a0_2, .int .i64 a0_3, .string a0_4], .agg #[.bool a2_0, .int .i64 a2_1, .string a2_2]] ?_; (with_reducible refine (Bl.calls k a0_2 a0_3 a0_4 a2_0 a2_1 a2_2 t169 _ A25.out).mono ?_); rintro e w31 ⟨rfl, hb⟩; refine ⟨_, rfl, ?_⟩;  replace BK166 := bk_ BK166 hb; replace BK167 := bk_ BK167 hb; replace HB := bs_ HB hb; (try clear hb)))
 go_ret
 exact en_ HB)
 ·(
 rw [if_neg c24] at H
 have c24b0 : (a1 == 3) = false := Dj c24
 have c24b1 : (a1 != 3) = true := Dm c24
 by_cases c32 : a1 = 4
 ·(
 rw [if_pos c32] at H
 have c32b0 : (a1 == 4) = true := Dl c32
 have c32b1 : (a1 != 4) = false := Dk c32
 clear c32
 replace H := Dn H
 obtain ⟨t170, A330, H⟩ := H
 replace H : (some (decide (t170 ≤ 0))) = some r := H
 have A33 := Aa.mk A330
 clear A330
 obtain rfl := Dp H
 go_enter Try.func75, Try.ntmps75
 go_wp2_with (first | (refine bx_ (N := 3) (cs := #[.int .i64 a0_0, .int .i64 a0_1, .bool a0_2, .int .i64 a0_3, .string a0_4, .bool a0_5, .int .i64 a0_6, .string a0_7]) (t := 33) ?_; intro gb166 hg w34 hbox hb; have BK166 := Aa.mk (hbox); have GW166 := ge_ HB hg; have GE166 := ge_ HB hg; replace HB := bs_ HB hb; clear hb hbox hg) | (refine bx_ (N := 5) (cs := #[.bool a2_0, .int .i64 a2_1, .string a2_2]) (t := 24) ?_; intro gb167 hg w35 hbox hb; have BK167 := Aa.mk (hbox); have GW167 := ge_ HB hg; have GE167 := ge_ HB hg; have NB166_167 := lt_ BK166 hg; have NB167_166 := gt_ BK166 hg; replace BK166 := bk_ BK166 hb; replace HB := bs_ HB hb; clear hb hbox hg; have hnb36 := NB166_167.out; have hnc36 := NB167_166.out; obtain ⟨C37_0, C37_1, C37_2, C37_3, C37_4, C37_5, C37_6, C37_7⟩ := zc8_ BK166.out; obtain ⟨F37_0, F37_1, F37_2, F37_3, F37_4, F37_5, F37_6, F37_7⟩ := zf8_ BK166.out; obtain ⟨C38_0, C38_1, C38_2⟩ := zc3_ BK167.out; obtain ⟨F38_0, F38_1, F38_2⟩ := zf3_ BK167.out) | ((with_reducible refine Aw (f := 50) rfl ?_); refine gl_ (some 37) rfl Try.func50 #[.agg #[.bool a0_2, .int .i64 a0_3, .string a0_4], .agg #[.bool a2_0, .int .i64 a2_1, .string a2_2]] ?_; (with_reducible refine (Bl.calls k a0_2 a0_3 a0_4 a2_0 a2_1 a2_2 t170 _ A33.out).mono ?_); rintro e w39 ⟨rfl, hb⟩; refine ⟨_, rfl, ?_⟩;  replace BK166 := bk_ BK166 hb; replace BK167 := bk_ BK167 hb; replace HB := bs_ HB hb; (try clear hb)))
 go_ret
 exact en_ HB)
 ·(
 rw [if_neg c32] at H
 have c32b0 : (a1 == 4) = false := Dj c32
 have c32b1 : (a1 != 4) = true := Dm c32
 by_cases c40 : a1 = 5
 ·(
 rw [if_pos c40] at H
 have c40b0 : (a1 == 5) = true := Dl c40
 have c40b1 : (a1 != 5) = false := Dk c40
 clear c40
 replace H := Dn H
 obtain ⟨t171, A410, H⟩ := H
 replace H : (some (decide (t171 > 0))) = some r := H
 have A41 := Aa.mk A410
 clear A410
 obtain rfl := Dp H
 go_enter Try.func75, Try.ntmps75
 go_wp2_with (first | (refine bx_ (N := 3) (cs := #[.int .i64 a0_0, .int .i64 a0_1, .bool a0_2, .int .i64 a0_3, .string a0_4, .bool a0_5, .int .i64 a0_6, .string a0_7]) (t := 33) ?_; intro gb166 hg w42 hbox hb; have BK166 := Aa.mk (hbox); have GW166 := ge_ HB hg; have GE166 := ge_ HB hg; replace HB := bs_ HB hb; clear hb hbox hg) | (refine bx_ (N := 5) (cs := #[.bool a2_0, .int .i64 a2_1, .string a2_2]) (t := 24) ?_; intro gb167 hg w43 hbox hb; have BK167 := Aa.mk (hbox); have GW167 := ge_ HB hg; have GE167 := ge_ HB hg; have NB166_167 := lt_ BK166 hg; have NB167_166 := gt_ BK166 hg; replace BK166 := bk_ BK166 hb; replace HB := bs_ HB hb; clear hb hbox hg; have hnb44 := NB166_167.out; have hnc44 := NB167_166.out; obtain ⟨C45_0, C45_1, C45_2, C45_3, C45_4, C45_5, C45_6, C45_7⟩ := zc8_ BK166.out; obtain ⟨F45_0, F45_1, F45_2, F45_3, F45_4, F45_5, F45_6, F45_7⟩ := zf8_ BK166.out; obtain ⟨C46_0, C46_1, C46_2⟩ := zc3_ BK167.out; obtain ⟨F46_0, F46_1, F46_2⟩ := zf3_ BK167.out) | ((with_reducible refine Aw (f := 50) rfl ?_); refine gl_ (some 44) rfl Try.func50 #[.agg #[.bool a0_5, .int .i64 a0_6, .string a0_7], .agg #[.bool a2_0, .int .i64 a2_1, .string a2_2]] ?_; (with_reducible refine (Bl.calls k a0_5 a0_6 a0_7 a2_0 a2_1 a2_2 t171 _ A41.out).mono ?_); rintro e w47 ⟨rfl, hb⟩; refine ⟨_, rfl, ?_⟩;  replace BK166 := bk_ BK166 hb; replace BK167 := bk_ BK167 hb; replace HB := bs_ HB hb; (try clear hb)))
 go_ret
 exact en_ HB)
 ·(
 rw [if_neg c40] at H
 have c40b0 : (a1 == 5) = false := Dj c40
 have c40b1 : (a1 != 5) = true := Dm c40
 replace H := Dn H
 obtain ⟨t172, A480, H⟩ := H
 replace H : (some (decide (t172 ≥ 0))) = some r := H
 have A48 := Aa.mk A480
 clear A480
 obtain rfl := Dp H
 go_enter Try.func75, Try.ntmps75
 go_wp2_with (first | (refine bx_ (N := 3) (cs := #[.int .i64 a0_0, .int .i64 a0_1, .bool a0_2, .int .i64 a0_3, .string a0_4, .bool a0_5, .int .i64 a0_6, .string a0_7]) (t := 33) ?_; intro gb166 hg w49 hbox hb; have BK166 := Aa.mk (hbox); have GW166 := ge_ HB hg; have GE166 := ge_ HB hg; replace HB := bs_ HB hb; clear hb hbox hg) | (refine bx_ (N := 5) (cs := #[.bool a2_0, .int .i64 a2_1, .string a2_2]) (t := 24) ?_; intro gb167 hg w50 hbox hb; have BK167 := Aa.mk (hbox); have GW167 := ge_ HB hg; have GE167 := ge_ HB hg; have NB166_167 := lt_ BK166 hg; have NB167_166 := gt_ BK166 hg; replace BK166 := bk_ BK166 hb; replace HB := bs_ HB hb; clear hb hbox hg; have hnb51 := NB166_167.out; have hnc51 := NB167_166.out; obtain ⟨C52_0, C52_1, C52_2, C52_3, C52_4, C52_5, C52_6, C52_7⟩ := zc8_ BK166.out; obtain ⟨F52_0, F52_1, F52_2, F52_3, F52_4, F52_5, F52_6, F52_7⟩ := zf8_ BK166.out; obtain ⟨C53_0, C53_1, C53_2⟩ := zc3_ BK167.out; obtain ⟨F53_0, F53_1, F53_2⟩ := zf3_ BK167.out) | ((with_reducible refine Aw (f := 50) rfl ?_); refine gl_ (some 49) rfl Try.func50 #[.agg #[.bool a0_5, .int .i64 a0_6, .string a0_7], .agg #[.bool a2_0, .int .i64 a2_1, .string a2_2]] ?_; (with_reducible refine (Bl.calls k a0_5 a0_6 a0_7 a2_0 a2_1 a2_2 t172 _ A48.out).mono ?_); rintro e w54 ⟨rfl, hb⟩; refine ⟨_, rfl, ?_⟩;  replace BK166 := bk_ BK166 hb; replace BK167 := bk_ BK167 hb; replace HB := bs_ HB hb; (try clear hb)))
 go_ret
 exact en_ HB)))))
def Cw.f (a0 : Int) : Option (Int) := if a0 = 1 then (some 2) else (if a0 = 2 then (some 1) else (if a0 = 3 then (some 6) else (if a0 = 4 then (some 5) else (if a0 = 5 then (some 4) else (some 3)))))
theorem Cw.calls (a0 : Int) (r : Int) (w : World) (h : Cw.f a0 = some r) :
  Calls Try.prog 76 #[.int .i64 a0] w fun e w' => e = .returned (.int .i64 r) ∧ Bp w w' := by
 have H : (if a0 = 1 then (some 2) else (if a0 = 2 then (some 1) else (if a0 = 3 then (some 6) else (if a0 = 4 then (some 5) else (if a0 = 5 then (some 4) else (some 3)))))) = some r := h
 clear h
 by_cases c2 : a0 = 1
 rotate_left
 focus(
 rw [if_neg c2] at H
 have c2b0 : (a0 == 1) = false := Dj c2
 have c2b1 : (a0 != 1) = true := Dm c2
 by_cases c3 : a0 = 2
 rotate_left
 focus(
 rw [if_neg c3] at H
 have c3b0 : (a0 == 2) = false := Dj c3
 have c3b1 : (a0 != 2) = true := Dm c3
 by_cases c4 : a0 = 3
 rotate_left
 focus(
 rw [if_neg c4] at H
 have c4b0 : (a0 == 3) = false := Dj c4
 have c4b1 : (a0 != 3) = true := Dm c4
 by_cases c5 : a0 = 4
 rotate_left
 focus(
 rw [if_neg c5] at H
 have c5b0 : (a0 == 4) = false := Dj c5
 have c5b1 : (a0 != 4) = true := Dm c5
 by_cases c6 : a0 = 5
 rotate_left
 focus(
 rw [if_neg c6] at H
 have c6b0 : (a0 == 5) = false := Dj c6
 have c6b1 : (a0 != 5) = true := Dm c6)
 rotate_right
 focus(
 rw [if_pos c6] at H
 have c6b0 : (a0 == 5) = true := Dl c6
 have c6b1 : (a0 != 5) = false := Dk c6
 clear c6))
 rotate_right
 focus(
 rw [if_pos c5] at H
 have c5b0 : (a0 == 4) = true := Dl c5
 have c5b1 : (a0 != 4) = false := Dk c5
 clear c5))
 rotate_right
 focus(
 rw [if_pos c4] at H
 have c4b0 : (a0 == 3) = true := Dl c4
 have c4b1 : (a0 != 3) = false := Dk c4
 clear c4))
 rotate_right
 focus(
 rw [if_pos c3] at H
 have c3b0 : (a0 == 2) = true := Dl c3
 have c3b1 : (a0 != 2) = false := Dk c3
 clear c3))
 rotate_right
 focus(
 rw [if_pos c2] at H
 have c2b0 : (a0 == 1) = true := Dl c2
 have c2b1 : (a0 != 1) = false := Dk c2
 clear c2)
 all_goals(
 obtain rfl := Dp H
 go_enter Try.func76, Try.ntmps76
 go_wp2
 go_ret
 exact ⟨by first | rfl | (simp; done) | (simp [*]; done), by repeat (first | exact Bp.refl _ | apply Bp.step)⟩)
end Go.Proofs.Ytdedmhmomoejkaa.X
