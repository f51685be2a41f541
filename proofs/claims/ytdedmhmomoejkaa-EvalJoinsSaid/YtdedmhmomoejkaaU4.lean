/- Words and walks for evalJoins_holds, part 4 of the texts that a program of this session laid together. -/
import Derived.Test.YtdedmhmomoejkaaU2
import Derived.Test.YtdedmhmomoejkaaU3
import Derived.StillTailTactics
namespace Go.Proofs.Ytdedmhmomoejkaa.X
open Go.RowKit Go.Proofs.YtdedmhmomoejkaaW.PrintWords Go.Proofs.YtdedmhmomoejkaaW.PrintLast Go.Proofs.YtdedmhmomoejkaaW.PrintMore
attribute [local go_sem] max2_int max_two
set_option linter.unusedVariables false
set_option linter.unusedSimpArgs false
def cmp_Compare_int64.f (a0 : Int) (a1 : Int) : Option (Int) := (cmp_isNaN_int64.f a0).bind fun t136 => ((cmp_isNaN_int64.f a1).bind fun t137 => (if t136 = true then (if t137 = true then (some 0) else (some (-1))) else (if t137 = true then (some 1) else (if a0 < a1 then (some (-1)) else (if a0 > a1 then (some 1) else (some 0))))))
set_option maxHeartbeats 8000000 in
set_option maxRecDepth 100000 in
theorem cmp_Compare_int64.calls (a0 : Int) (a1 : Int) (r : Int) (w : World) (h : cmp_Compare_int64.f a0 a1 = some r) :
  Calls Try.prog 73 #[.int .i64 a0, .int .i64 a1] w fun e w' => e = .returned (.int .i64 r) ∧ Drawn0 w w' := by
 have H : ((cmp_isNaN_int64.f a0).bind fun t136 => ((cmp_isNaN_int64.f a1).bind fun t137 => (if t136 = true then (if t137 = true then (some 0) else (some (-1))) else (if t137 = true then (some 1) else (if a0 < a1 then (some (-1)) else (if a0 > a1 then (some 1) else (some 0))))))) = some r := h
 clear h
 replace H := Option.bind_eq_some_iff.mp H
 obtain ⟨t136, A30, H⟩ := H
 replace H : ((cmp_isNaN_int64.f a1).bind fun t137 => (if t136 = true then (if t137 = true then (some 0) else (some (-1))) else (if t137 = true then (some 1) else (if a0 < a1 then (some (-1)) else (if a0 > a1 then (some 1) else (some 0)))))) = some r := H
 have A3 := Aside0.mk A30
 clear A30
 replace H := Option.bind_eq_some_iff.mp H
 obtain ⟨t137, A40, H⟩ := H
 replace H : (if t136 = true then (if t137 = true then (some 0) else (some (-1))) else (if t137 = true then (some 1) else (if a0 < a1 then (some (-1)) else (if a0 > a1 then (some 1) else (some 0))))) = some r := H
 have A4 := Aside0.mk A40
 clear A40
 by_cases c5 : t136 = true
 ·subst c5
  have H1 : (if t137 = true then (some 0) else (some (-1))) = some r := by rw [if_pos rfl] at H; exact H
  clear H
  have H := H1
  clear H1
  by_cases c6 : t137 = true
  ·subst c6
   have H1 : (some 0) = some r := by rw [if_pos rfl] at H; exact H
   clear H
   have H := H1
   clear H1
   obtain rfl := Option.some.inj H
   go_enter Try.func73, Try.ntmps73
   go_wp2_with (first | ((with_reducible refine gate_callee (f := 95) rfl ?_); refine gl_ (some 8) rfl Try.func95 #[.int .i64 a0] ?_; (with_reducible refine (cmp_isNaN_int64.calls a0 true _ A3.out).mono ?_); rintro e w' ⟨rfl, ⟨nd, rfl⟩⟩; refine ⟨_, rfl, ?_⟩) | ((with_reducible refine gate_callee (f := 95) rfl ?_); refine gl_ (some 10) rfl Try.func95 #[.int .i64 a1] ?_; (with_reducible refine (cmp_isNaN_int64.calls a1 true _ A4.out).mono ?_); rintro e w' ⟨rfl, ⟨nd, rfl⟩⟩; refine ⟨_, rfl, ?_⟩))
   go_ret
   exact ⟨by first | rfl | (simp; done) | (simp [*]; done), by repeat (first | exact Drawn0.refl _ | apply Drawn0.step)⟩
  ·replace c6 := Bool.eq_false_iff.mpr c6
   subst c6
   have H1 : (some (-1)) = some r := by rw [if_neg (show ¬ (false = true) by decide)] at H; exact H
   clear H
   have H := H1
   clear H1
   obtain rfl := Option.some.inj H
   go_enter Try.func73, Try.ntmps73
   go_wp2_with (first | ((with_reducible refine gate_callee (f := 95) rfl ?_); refine gl_ (some 8) rfl Try.func95 #[.int .i64 a0] ?_; (with_reducible refine (cmp_isNaN_int64.calls a0 true _ A3.out).mono ?_); rintro e w' ⟨rfl, ⟨nd, rfl⟩⟩; refine ⟨_, rfl, ?_⟩) | ((with_reducible refine gate_callee (f := 95) rfl ?_); refine gl_ (some 10) rfl Try.func95 #[.int .i64 a1] ?_; (with_reducible refine (cmp_isNaN_int64.calls a1 false _ A4.out).mono ?_); rintro e w' ⟨rfl, ⟨nd, rfl⟩⟩; refine ⟨_, rfl, ?_⟩))
   go_ret
   exact ⟨by first | rfl | (simp; done) | (simp [*]; done), by repeat (first | exact Drawn0.refl _ | apply Drawn0.step)⟩
 ·replace c5 := Bool.eq_false_iff.mpr c5
  subst c5
  have H1 : (if t137 = true then (some 1) else (if a0 < a1 then (some (-1)) else (if a0 > a1 then (some 1) else (some 0)))) = some r := by rw [if_neg (show ¬ (false = true) by decide)] at H; exact H
  clear H
  have H := H1
  clear H1
  by_cases c7 : t137 = true
  ·subst c7
   have H1 : (some 1) = some r := by rw [if_pos rfl] at H; exact H
   clear H
   have H := H1
   clear H1
   obtain rfl := Option.some.inj H
   go_enter Try.func73, Try.ntmps73
   go_wp2_with (first | ((with_reducible refine gate_callee (f := 95) rfl ?_); refine gl_ (some 8) rfl Try.func95 #[.int .i64 a0] ?_; (with_reducible refine (cmp_isNaN_int64.calls a0 false _ A3.out).mono ?_); rintro e w' ⟨rfl, ⟨nd, rfl⟩⟩; refine ⟨_, rfl, ?_⟩) | ((with_reducible refine gate_callee (f := 95) rfl ?_); refine gl_ (some 10) rfl Try.func95 #[.int .i64 a1] ?_; (with_reducible refine (cmp_isNaN_int64.calls a1 true _ A4.out).mono ?_); rintro e w' ⟨rfl, ⟨nd, rfl⟩⟩; refine ⟨_, rfl, ?_⟩))
   go_ret
   exact ⟨by first | rfl | (simp; done) | (simp [*]; done), by repeat (first | exact Drawn0.refl _ | apply Drawn0.step)⟩
  ·replace c7 := Bool.eq_false_iff.mpr c7
   subst c7
   have H1 : (if a0 < a1 then (some (-1)) else (if a0 > a1 then (some 1) else (some 0))) = some r := by rw [if_neg (show ¬ (false = true) by decide)] at H; exact H
   clear H
   have H := H1
   clear H1
   by_cases c8 : a0 < a1
   ·rw [if_pos c8] at H
    have c8b0 : decide (a0 < a1) = true := decide_eq_true c8
    clear c8
    obtain rfl := Option.some.inj H
    go_enter Try.func73, Try.ntmps73
    go_wp2_with (first | ((with_reducible refine gate_callee (f := 95) rfl ?_); refine gl_ (some 8) rfl Try.func95 #[.int .i64 a0] ?_; (with_reducible refine (cmp_isNaN_int64.calls a0 false _ A3.out).mono ?_); rintro e w' ⟨rfl, ⟨nd, rfl⟩⟩; refine ⟨_, rfl, ?_⟩) | ((with_reducible refine gate_callee (f := 95) rfl ?_); refine gl_ (some 10) rfl Try.func95 #[.int .i64 a1] ?_; (with_reducible refine (cmp_isNaN_int64.calls a1 false _ A4.out).mono ?_); rintro e w' ⟨rfl, ⟨nd, rfl⟩⟩; refine ⟨_, rfl, ?_⟩))
    go_ret
    exact ⟨by first | rfl | (simp; done) | (simp [*]; done), by repeat (first | exact Drawn0.refl _ | apply Drawn0.step)⟩
   ·rw [if_neg c8] at H
    have c8b0 : decide (a0 < a1) = false := decide_eq_false c8
    clear c8
    by_cases c9 : a0 > a1
    ·rw [if_pos c9] at H
     have c9b0 : decide (a1 < a0) = true := decide_eq_true c9
     clear c9
     obtain rfl := Option.some.inj H
     go_enter Try.func73, Try.ntmps73
     go_wp2_with (first | ((with_reducible refine gate_callee (f := 95) rfl ?_); refine gl_ (some 8) rfl Try.func95 #[.int .i64 a0] ?_; (with_reducible refine (cmp_isNaN_int64.calls a0 false _ A3.out).mono ?_); rintro e w' ⟨rfl, ⟨nd, rfl⟩⟩; refine ⟨_, rfl, ?_⟩) | ((with_reducible refine gate_callee (f := 95) rfl ?_); refine gl_ (some 10) rfl Try.func95 #[.int .i64 a1] ?_; (with_reducible refine (cmp_isNaN_int64.calls a1 false _ A4.out).mono ?_); rintro e w' ⟨rfl, ⟨nd, rfl⟩⟩; refine ⟨_, rfl, ?_⟩))
     go_ret
     exact ⟨by first | rfl | (simp; done) | (simp [*]; done), by repeat (first | exact Drawn0.refl _ | apply Drawn0.step)⟩
    ·rw [if_neg c9] at H
     have c9b0 : decide (a1 < a0) = false := decide_eq_false c9
     clear c9
     obtain rfl := Option.some.inj H
     go_enter Try.func73, Try.ntmps73
     go_wp2_with (first | ((with_reducible refine gate_callee (f := 95) rfl ?_); refine gl_ (some 8) rfl Try.func95 #[.int .i64 a0] ?_; (with_reducible refine (cmp_isNaN_int64.calls a0 false _ A3.out).mono ?_); rintro e w' ⟨rfl, ⟨nd, rfl⟩⟩; refine ⟨_, rfl, ?_⟩) | ((with_reducible refine gate_callee (f := 95) rfl ?_); refine gl_ (some 10) rfl Try.func95 #[.int .i64 a1] ?_; (with_reducible refine (cmp_isNaN_int64.calls a1 false _ A4.out).mono ?_); rintro e w' ⟨rfl, ⟨nd, rfl⟩⟩; refine ⟨_, rfl, ?_⟩))
     go_ret
     exact ⟨by first | rfl | (simp; done) | (simp [*]; done), by repeat (first | exact Drawn0.refl _ | apply Drawn0.step)⟩
end Go.Proofs.Ytdedmhmomoejkaa.X
namespace Go.Proofs.Ytdedmhmomoejkaa.X
open Go.RowKit Go.Proofs.YtdedmhmomoejkaaW.PrintWords Go.Proofs.YtdedmhmomoejkaaW.PrintLast Go.Proofs.YtdedmhmomoejkaaW.PrintMore
attribute [local go_sem] max2_int max_two
set_option linter.unusedVariables false
set_option linter.unusedSimpArgs false
def cmp_isNaN_string.f (a0 : ByteArray) : Option (Bool) := some (a0.toList != a0.toList)
set_option maxHeartbeats 8000000 in
set_option maxRecDepth 100000 in
theorem cmp_isNaN_string.calls (a0 : ByteArray) (r : Bool) (w : World) (h : cmp_isNaN_string.f a0 = some r) :
  Calls Try.prog 96 #[.string a0] w fun e w' => e = .returned (.bool r) ∧ Drawn0 w w' := by
 have H : (some (a0.toList != a0.toList)) = some r := h
 clear h
 obtain rfl := Option.some.inj H
 go_enter Try.func96, Try.ntmps96
 go_wp2
 go_ret
 exact ⟨by first | rfl | (simp; done) | (simp [*]; done), by repeat (first | exact Drawn0.refl _ | apply Drawn0.step)⟩
end Go.Proofs.Ytdedmhmomoejkaa.X
namespace Go.Proofs.Ytdedmhmomoejkaa.X
open Go.RowKit Go.Proofs.YtdedmhmomoejkaaW.PrintWords Go.Proofs.YtdedmhmomoejkaaW.PrintLast Go.Proofs.YtdedmhmomoejkaaW.PrintMore
attribute [local go_sem] max2_int max_two
set_option linter.unusedVariables false
set_option linter.unusedSimpArgs false
def cmp_Compare_string.f (a0 : ByteArray) (a1 : ByteArray) : Option (Int) := (cmp_isNaN_string.f a0).bind fun t138 => ((cmp_isNaN_string.f a1).bind fun t139 => (if t138 = true then (if t139 = true then (some 0) else (some (-1))) else (if t139 = true then (some 1) else (if (Op.bytesLess a0.toList a1.toList) = true then (some (-1)) else (if a0.toList = a1.toList then (some 0) else (some 1))))))
set_option maxHeartbeats 8000000 in
set_option maxRecDepth 100000 in
theorem cmp_Compare_string.calls (a0 : ByteArray) (a1 : ByteArray) (r : Int) (w : World) (h : cmp_Compare_string.f a0 a1 = some r) :
  Calls Try.prog 74 #[.string a0, .string a1] w fun e w' => e = .returned (.int .i64 r) ∧ Drawn0 w w' := by
 have H : ((cmp_isNaN_string.f a0).bind fun t138 => ((cmp_isNaN_string.f a1).bind fun t139 => (if t138 = true then (if t139 = true then (some 0) else (some (-1))) else (if t139 = true then (some 1) else (if (Op.bytesLess a0.toList a1.toList) = true then (some (-1)) else (if a0.toList = a1.toList then (some 0) else (some 1))))))) = some r := h
 clear h
 replace H := Option.bind_eq_some_iff.mp H
 obtain ⟨t138, A30, H⟩ := H
 replace H : ((cmp_isNaN_string.f a1).bind fun t139 => (if t138 = true then (if t139 = true then (some 0) else (some (-1))) else (if t139 = true then (some 1) else (if (Op.bytesLess a0.toList a1.toList) = true then (some (-1)) else (if a0.toList = a1.toList then (some 0) else (some 1)))))) = some r := H
 have A3 := Aside0.mk A30
 clear A30
 replace H := Option.bind_eq_some_iff.mp H
 obtain ⟨t139, A40, H⟩ := H
 replace H : (if t138 = true then (if t139 = true then (some 0) else (some (-1))) else (if t139 = true then (some 1) else (if (Op.bytesLess a0.toList a1.toList) = true then (some (-1)) else (if a0.toList = a1.toList then (some 0) else (some 1))))) = some r := H
 have A4 := Aside0.mk A40
 clear A40
 by_cases c5 : t138 = true
 ·subst c5
  have H1 : (if t139 = true then (some 0) else (some (-1))) = some r := by rw [if_pos rfl] at H; exact H
  clear H
  have H := H1
  clear H1
  by_cases c6 : t139 = true
  ·subst c6
   have H1 : (some 0) = some r := by rw [if_pos rfl] at H; exact H
   clear H
   have H := H1
   clear H1
   obtain rfl := Option.some.inj H
   go_enter Try.func74, Try.ntmps74
   go_wp2_with (first | ((with_reducible refine gate_callee (f := 96) rfl ?_); refine gl_ (some 8) rfl Try.func96 #[.string a0] ?_; (with_reducible refine (cmp_isNaN_string.calls a0 true _ A3.out).mono ?_); rintro e w' ⟨rfl, ⟨nd, rfl⟩⟩; refine ⟨_, rfl, ?_⟩) | ((with_reducible refine gate_callee (f := 96) rfl ?_); refine gl_ (some 10) rfl Try.func96 #[.string a1] ?_; (with_reducible refine (cmp_isNaN_string.calls a1 true _ A4.out).mono ?_); rintro e w' ⟨rfl, ⟨nd, rfl⟩⟩; refine ⟨_, rfl, ?_⟩))
   go_ret
   exact ⟨by first | rfl | (simp; done) | (simp [*]; done), by repeat (first | exact Drawn0.refl _ | apply Drawn0.step)⟩
  ·replace c6 := Bool.eq_false_iff.mpr c6
   subst c6
   have H1 : (some (-1)) = some r := by rw [if_neg (show ¬ (false = true) by decide)] at H; exact H
   clear H
   have H := H1
   clear H1
   obtain rfl := Option.some.inj H
   go_enter Try.func74, Try.ntmps74
   go_wp2_with (first | ((with_reducible refine gate_callee (f := 96) rfl ?_); refine gl_ (some 8) rfl Try.func96 #[.string a0] ?_; (with_reducible refine (cmp_isNaN_string.calls a0 true _ A3.out).mono ?_); rintro e w' ⟨rfl, ⟨nd, rfl⟩⟩; refine ⟨_, rfl, ?_⟩) | ((with_reducible refine gate_callee (f := 96) rfl ?_); refine gl_ (some 10) rfl Try.func96 #[.string a1] ?_; (with_reducible refine (cmp_isNaN_string.calls a1 false _ A4.out).mono ?_); rintro e w' ⟨rfl, ⟨nd, rfl⟩⟩; refine ⟨_, rfl, ?_⟩))
   go_ret
   exact ⟨by first | rfl | (simp; done) | (simp [*]; done), by repeat (first | exact Drawn0.refl _ | apply Drawn0.step)⟩
 ·replace c5 := Bool.eq_false_iff.mpr c5
  subst c5
  have H1 : (if t139 = true then (some 1) else (if (Op.bytesLess a0.toList a1.toList) = true then (some (-1)) else (if a0.toList = a1.toList then (some 0) else (some 1)))) = some r := by rw [if_neg (show ¬ (false = true) by decide)] at H; exact H
  clear H
  have H := H1
  clear H1
  by_cases c7 : t139 = true
  ·subst c7
   have H1 : (some 1) = some r := by rw [if_pos rfl] at H; exact H
   clear H
   have H := H1
   clear H1
   obtain rfl := Option.some.inj H
   go_enter Try.func74, Try.ntmps74
   go_wp2_with (first | ((with_reducible refine gate_callee (f := 96) rfl ?_); refine gl_ (some 8) rfl Try.func96 #[.string a0] ?_; (with_reducible refine (cmp_isNaN_string.calls a0 false _ A3.out).mono ?_); rintro e w' ⟨rfl, ⟨nd, rfl⟩⟩; refine ⟨_, rfl, ?_⟩) | ((with_reducible refine gate_callee (f := 96) rfl ?_); refine gl_ (some 10) rfl Try.func96 #[.string a1] ?_; (with_reducible refine (cmp_isNaN_string.calls a1 true _ A4.out).mono ?_); rintro e w' ⟨rfl, ⟨nd, rfl⟩⟩; refine ⟨_, rfl, ?_⟩))
   go_ret
   exact ⟨by first | rfl | (simp; done) | (simp [*]; done), by repeat (first | exact Drawn0.refl _ | apply Drawn0.step)⟩
  ·replace c7 := Bool.eq_false_iff.mpr c7
   subst c7
   have H1 : (if (Op.bytesLess a0.toList a1.toList) = true then (some (-1)) else (if a0.toList = a1.toList then (some 0) else (some 1))) = some r := by rw [if_neg (show ¬ (false = true) by decide)] at H; exact H
   clear H
   have H := H1
   clear H1
   by_cases c8 : (Op.bytesLess a0.toList a1.toList) = true
   ·rw [if_pos c8] at H
    have c8b0 : (Op.bytesLess a0.toList a1.toList) = true := c8
    clear c8
    obtain rfl := Option.some.inj H
    go_enter Try.func74, Try.ntmps74
    go_wp2_with (first | ((with_reducible refine gate_callee (f := 96) rfl ?_); refine gl_ (some 8) rfl Try.func96 #[.string a0] ?_; (with_reducible refine (cmp_isNaN_string.calls a0 false _ A3.out).mono ?_); rintro e w' ⟨rfl, ⟨nd, rfl⟩⟩; refine ⟨_, rfl, ?_⟩) | ((with_reducible refine gate_callee (f := 96) rfl ?_); refine gl_ (some 10) rfl Try.func96 #[.string a1] ?_; (with_reducible refine (cmp_isNaN_string.calls a1 false _ A4.out).mono ?_); rintro e w' ⟨rfl, ⟨nd, rfl⟩⟩; refine ⟨_, rfl, ?_⟩))
    go_ret
    exact ⟨by first | rfl | (simp; done) | (simp [*]; done), by repeat (first | exact Drawn0.refl _ | apply Drawn0.step)⟩
   ·rw [if_neg c8] at H
    have c8b0 : (Op.bytesLess a0.toList a1.toList) = false := by simpa using c8
    clear c8
    by_cases c9 : a0.toList = a1.toList
    ·rw [if_pos c9] at H
     have c9b0 : (a0.toList == a1.toList) = true := beq_iff_eq.mpr c9
     have c9b1 : (a0.toList != a1.toList) = false := bne_eq_false_iff_eq.mpr c9
     clear c9
     obtain rfl := Option.some.inj H
     go_enter Try.func74, Try.ntmps74
     go_wp2_with (first | ((with_reducible refine gate_callee (f := 96) rfl ?_); refine gl_ (some 8) rfl Try.func96 #[.string a0] ?_; (with_reducible refine (cmp_isNaN_string.calls a0 false _ A3.out).mono ?_); rintro e w' ⟨rfl, ⟨nd, rfl⟩⟩; refine ⟨_, rfl, ?_⟩) | ((with_reducible refine gate_callee (f := 96) rfl ?_); refine gl_ (some 10) rfl Try.func96 #[.string a1] ?_; (with_reducible refine (cmp_isNaN_string.calls a1 false _ A4.out).mono ?_); rintro e w' ⟨rfl, ⟨nd, rfl⟩⟩; refine ⟨_, rfl, ?_⟩))
     go_ret
     exact ⟨by first | rfl | (simp; done) | (simp [*]; done), by repeat (first | exact Drawn0.refl _ | apply Drawn0.step)⟩
    ·rw [if_neg c9] at H
     have c9b0 : (a0.toList == a1.toList) = false := beq_eq_false_iff_ne.mpr c9
     have c9b1 : (a0.toList != a1.toList) = true := bne_iff_ne.mpr c9
     obtain rfl := Option.some.inj H
     go_enter Try.func74, Try.ntmps74
     go_wp2_with (first | ((with_reducible refine gate_callee (f := 96) rfl ?_); refine gl_ (some 8) rfl Try.func96 #[.string a0] ?_; (with_reducible refine (cmp_isNaN_string.calls a0 false _ A3.out).mono ?_); rintro e w' ⟨rfl, ⟨nd, rfl⟩⟩; refine ⟨_, rfl, ?_⟩) | ((with_reducible refine gate_callee (f := 96) rfl ?_); refine gl_ (some 10) rfl Try.func96 #[.string a1] ?_; (with_reducible refine (cmp_isNaN_string.calls a1 false _ A4.out).mono ?_); rintro e w' ⟨rfl, ⟨nd, rfl⟩⟩; refine ⟨_, rfl, ?_⟩))
     go_ret
     exact ⟨by first | rfl | (simp; done) | (simp [*]; done), by repeat (first | exact Drawn0.refl _ | apply Drawn0.step)⟩
end Go.Proofs.Ytdedmhmomoejkaa.X
namespace Go.Proofs.Ytdedmhmomoejkaa.X
open Go.RowKit Go.Proofs.YtdedmhmomoejkaaW.PrintWords Go.Proofs.YtdedmhmomoejkaaW.PrintLast
set_option linter.unusedVariables false
set_option linter.unusedSimpArgs false
def Tot {α : Type} (g : Nat → Option α) : Prop := ∃ r, Ev g r
theorem Tot.some_ {α : Type} (r : α) : Tot (fun _ => some r) := ⟨r, Ev.now r⟩
theorem Tot.ite {α : Type} {c : Prop} [Decidable c] {f g : Nat → Option α} (h : c → Tot f) (h' : ¬ c → Tot g) : Tot (fun k => if c then f k else g k) := by
  by_cases hc : c
  · simp only [if_pos hc]; exact h hc
  · simp only [if_neg hc]; exact h' hc
theorem Tot.bind {α β : Type} {g : Nat → Option α} {f : Nat → α → Option β} (h : Tot g) (k : ∀ x, Tot (fun n => f n x)) : Tot (fun n => (g n).bind (f n)) := by
  obtain ⟨x, hx⟩ := h
  obtain ⟨r, hr⟩ := k x
  exact ⟨r, Ev.bind hx hr⟩
theorem Tot.succ {α : Type} {g f : Nat → Option α} (h : ∀ k, g (k + 1) = f k) (k : Tot f) : Tot g := by
  obtain ⟨r, hr⟩ := k
  exact ⟨r, Ev.step h hr⟩
def cmpI (a b : Int) : Int := if a < b then -1 else if a > b then 1 else 0
def cmpT (a b : ByteArray) : Int := if Op.bytesLess a.toList b.toList = true then -1 else if a.toList = b.toList then 0 else 1
theorem cmpI_f (a b : Int) : cmp_Compare_int.f a b = some (cmpI a b) := by
  simp only [cmp_Compare_int.f, cmp_isNaN_int.f, Option.bind_some, bne_self_eq_false, cmpI]
  simp
  split <;> simp_all
  split <;> simp_all
theorem cmpI64_f (a b : Int) : cmp_Compare_int64.f a b = some (cmpI a b) := by
  simp only [cmp_Compare_int64.f, cmp_isNaN_int64.f, Option.bind_some, bne_self_eq_false, cmpI]
  simp
  split <;> simp_all
  split <;> simp_all
theorem cmpT_f (a b : ByteArray) : cmp_Compare_string.f a b = some (cmpT a b) := by
  simp only [cmp_Compare_string.f, cmp_isNaN_string.f, Option.bind_some, bne_self_eq_false, cmpT]
  simp
  split <;> simp_all
  split <;> simp_all
end Go.Proofs.Ytdedmhmomoejkaa.X
namespace Go.Proofs.Ytdedmhmomoejkaa.X
open Go.RowKit Go.Proofs.YtdedmhmomoejkaaW.PrintWords Go.Proofs.YtdedmhmomoejkaaW.PrintLast
set_option linter.unusedVariables false
set_option linter.unusedSimpArgs false
theorem fields_cases (x : S27) (h : fieldsB x = true) : x.f0 = 1 ∨ ((x.f0 = 2 ∨ x.f0 = 3 ∨ x.f0 = 4) ∧ nameB x.f1 = true) ∨ (x.f0 = 5 ∨ x.f0 = 6 ∨ x.f0 = 7) := by
  have hs := fields_some x
  rw [h] at hs
  by_cases h1 : x.f0 = 1
  · exact .inl h1
  by_cases h5 : x.f0 = 5 ∨ x.f0 = 6 ∨ x.f0 = 7
  · exact .inr (.inr h5)
  have h5' : x.f0 ≠ 5 ∧ x.f0 ≠ 6 ∧ x.f0 ≠ 7 := by omega
  refine .inr (.inl ?_)
  unfold pred_fields.f at hs
  obtain ⟨b, _, hs⟩ := Option.bind_eq_some_iff.1 hs
  obtain ⟨c, _, hs⟩ := Option.bind_eq_some_iff.1 hs
  simp only [schema_Name.f, Option.bind_some] at hs
  by_cases h2 : x.f0 = 2
  · refine ⟨.inl h2, ?_⟩
    cases hn : nameB x.f1
    · rw [hn] at hs; simp [h2] at hs
    · rfl
  by_cases h3 : x.f0 = 3
  · refine ⟨.inr (.inl h3), ?_⟩
    cases hn : nameB x.f1
    · rw [hn] at hs; simp [h3] at hs
    · rfl
  by_cases h4 : x.f0 = 4
  · refine ⟨.inr (.inr h4), ?_⟩
    cases hn : nameB x.f1
    · rw [hn] at hs; simp [h4] at hs
    · rfl
  exfalso
  have hlt : x.f0 < 5 ∨ 7 < x.f0 := by omega
  simp [h1, h2, h3, h4] at hs
  rcases hlt with hlt | hlt
  · have : ¬ (5 ≤ x.f0) := by omega
    simp [this] at hs
  · have h5 : 5 ≤ x.f0 := by omega
    have : ¬ (x.f0 ≤ 7) := by omega
    simp [h5, this] at hs
theorem name_ne (s : ByteArray) (h : nameB s = true) : s.toList ≠ [] := by
  intro e
  have : s.size = 0 := by
    rw [ByteArray.toList_eq] at e
    have := data_length s
    rw [e] at this
    exact this.symm
  simp [nameB, this] at h
theorem typed_found (l : List S64) (x : S27) (h : typedB l x = true) (hn : x.f1.toList ≠ []) : 0 ≤ idxOf (fun y : S64 => y.f0.toList == x.f1.toList) l := by
  have hs := typed_some l x
  rw [h] at hs
  unfold pred_typed.f schema_Find.f at hs
  rw [if_neg hn] at hs
  simp only [Option.bind_some] at hs
  cases hd : decide (0 ≤ idxOf (fun y : S64 => y.f0.toList == x.f1.toList) l)
  · rw [hd] at hs; simp at hs
  · exact of_decide_eq_true hd
def Good {σ : Type} (st : S27 → σ → Bool × σ) (d : Nat) (x : S27) : Prop := ∃ s, (ev st d x s).1 = true
theorem evL_all {σ : Type} (f : S27 → σ → Bool × σ) : ∀ (l : List S27) (s : σ), (evL f l s).1 = true → ∀ y, y ∈ l → ∃ s', (f y s').1 = true
  | [], _, _, y, hy => by cases hy
  | x :: r, s, h, y, hy => by
    unfold evL at h
    cases hb : (f x s).1 with
    | false => rw [hb] at h; simp at h
    | true =>
      rw [hb] at h
      rcases List.mem_cons.1 hy with rfl | hy
      · exact ⟨s, hb⟩
      · exact evL_all f r _ (by simpa using h) y hy
theorem Good.step {σ : Type} {st : S27 → σ → Bool × σ} {d : Nat} {x : S27} (h : Good st d x) : ∃ e, d = e + 1 ∧ (∃ s, (st x s).1 = true) ∧ ∀ y, y ∈ x.f6 → Good st e y := by
  obtain ⟨s, h⟩ := h
  cases d with
  | zero => simp [ev] at h
  | succ e =>
    refine ⟨e, rfl, ?_⟩
    unfold ev at h
    cases hb : (st x s).1 with
    | false => rw [hb] at h; simp at h
    | true =>
      rw [hb] at h
      exact ⟨⟨s, hb⟩, evL_all _ _ _ (by simpa using h)⟩
end Go.Proofs.Ytdedmhmomoejkaa.X
namespace Go.Proofs.Ytdedmhmomoejkaa.X
open Go.RowKit Go.Proofs.YtdedmhmomoejkaaW.PrintWords Go.Proofs.YtdedmhmomoejkaaW.PrintLast
set_option linter.unusedVariables false
set_option linter.unusedSimpArgs false
theorem wrap_in {i : Int} (h0 : -9223372036854775808 ≤ i) (h1 : i ≤ 9223372036854775807) : wrap64 i = i := by unfold wrap64; omega
theorem rd27_mem (l : List S27) (i : Nat) (h : i < l.length) : rd_T27 l (i : Int) ∈ l := by
  simp only [rd_T27, Int.toNat_natCast, List.getD_eq_getElem?_getD, List.getElem?_eq_getElem h, Option.getD_some]
  exact List.getElem_mem h
theorem kids_len (op : Int) (ks : List S27) (h : kidsB op ks = true) (h5 : op = 5) : ks.length = 1 := by
  subst h5
  simpa [kidsB] using h
def Lens : Nat → S27 → Prop
  | 0, _ => True
  | d + 1, x => x.f6.length ≤ 9223372036854775806 ∧ ∀ y, y ∈ x.f6 → Lens d y
theorem cellMay_ans (a : Int) (b c : Bool) (d : Int) (e : ByteArray) : Ans (cell_May.f a b c d e) := by
  unfold cell_May.f
  repeat' (first | exact Ans.some_ _ | refine Ans.ite ?_ ?_)
def notP (x : S27) : S27 := ⟨5, ⟨#[]⟩, 0, ⟨false, 0, ⟨#[]⟩⟩, 0, ⟨#[]⟩, [x]⟩
end Go.Proofs.Ytdedmhmomoejkaa.X
namespace Go.Proofs.Ytdedmhmomoejkaa.X
open Go.RowKit Go.Proofs.YtdedmhmomoejkaaW.PrintWords Go.Proofs.YtdedmhmomoejkaaW.PrintLast Go.Proofs.YtdedmhmomoejkaaW.PrintMore
attribute [local go_sem] max2_int max_two
set_option linter.unusedVariables false
set_option linter.unusedSimpArgs false
mutual
def firkinlaw12_Small.l0 : Nat → List (S64) → Int → Option (Bool)
 | 0, _, _ => none
 | k + 1, x0, x3 => if x3 < (x0.length : Int) then (firkinlaw12_Small.j1 k x0 x3 (decide (x3 < 30))) else (firkinlaw12_Small.j1 k x0 x3 false)
def firkinlaw12_Small.j1 : Nat → List (S64) → Int → Bool → Option (Bool)
 | 0, _, _, _ => none
 | k + 1, x0, x3, x11 => if x11 = true then (if 0 ≤ x3 then (if x3 < (x0.length : Int) then (if (((rd_T64 x0 x3).f0).size : Int) > 100 then (some false) else (firkinlaw12_Small.l0 k x0 (wrap64 (x3 + 1)))) else (none)) else (none)) else (some (decide ((x0.length : Int) ≤ 20)))
end
def firkinlaw12_Small.f (k : Nat) (l0 : List (S64)) : Option (Bool) := firkinlaw12_Small.l0 k l0 0
theorem firkinlaw12_Small.mono_l : ∀ k, (∀ y0 y1, LeO (firkinlaw12_Small.l0 k y0 y1) (firkinlaw12_Small.l0 (k + 1) y0 y1)) ∧ (∀ y0 y1 y2, LeO (firkinlaw12_Small.j1 k y0 y1 y2) (firkinlaw12_Small.j1 (k + 1) y0 y1 y2))
 | 0 => ⟨fun _ _ r h => by simp [firkinlaw12_Small.l0] at h, fun _ _ _ r h => by simp [firkinlaw12_Small.j1] at h⟩
 | k + 1 => by
  obtain ⟨ih0, ih1⟩ := firkinlaw12_Small.mono_l k
  refine ⟨?_, ?_⟩
  ·intro y0 y1
   unfold firkinlaw12_Small.l0
   repeat' first
   | (with_reducible exact ih0 _ _)
   | (with_reducible exact ih1 _ _ _)
   | (with_reducible exact LeO.refl _)
   | (with_reducible exact LeO.none _)
   | (with_reducible refine LeO.ite ?_ ?_)
   | (with_reducible refine LeO.bind ?_ (fun _ => ?_))
   | exact ih0 _ _
   | exact ih1 _ _ _
   | exact LeO.none _
   | refine LeO.ite ?_ ?_
   | refine LeO.bind ?_ (fun _ => ?_)
  ·intro y0 y1 y2
   unfold firkinlaw12_Small.j1
   repeat' first
   | (with_reducible exact ih0 _ _)
   | (with_reducible exact ih1 _ _ _)
   | (with_reducible exact LeO.refl _)
   | (with_reducible exact LeO.none _)
   | (with_reducible refine LeO.ite ?_ ?_)
   | (with_reducible refine LeO.bind ?_ (fun _ => ?_))
   | exact ih0 _ _
   | exact ih1 _ _ _
   | exact LeO.none _
   | refine LeO.ite ?_ ?_
   | refine LeO.bind ?_ (fun _ => ?_)
theorem firkinlaw12_Small.mono : ∀ a0 k, LeO (firkinlaw12_Small.f k a0) (firkinlaw12_Small.f (k + 1) a0) := by
 intro a0 k
 obtain ⟨ih0, ih1⟩ := firkinlaw12_Small.mono_l k
 unfold firkinlaw12_Small.f
 repeat' first
   | (with_reducible exact ih0 _ _)
   | (with_reducible exact ih1 _ _ _)
   | (with_reducible exact LeO.refl _)
   | (with_reducible exact LeO.none _)
   | (with_reducible refine LeO.ite ?_ ?_)
   | (with_reducible refine LeO.bind ?_ (fun _ => ?_))
   | exact ih0 _ _
   | exact ih1 _ _ _
   | exact LeO.none _
   | refine LeO.ite ?_ ?_
   | refine LeO.bind ?_ (fun _ => ?_)
set_option maxHeartbeats 8000000 in
set_option maxRecDepth 100000 in
theorem firkinlaw12_Small.calls (k : Nat) (A0 : Option Addr) (c0 : Nat) (l0 : List (S64)) (r : Bool) (w : World) (hr0 : Kd.C k64 w A0 l0.length l0) (hc0 : l0.length ≤ c0) (h : firkinlaw12_Small.f k l0 = some r) :
  Calls Try.prog 9 #[.slice A0 l0.length c0] w fun e w' => e = .returned (.bool r) ∧ Drawn0 w w' := by
 have HR0 := Aside0.mk hr0
 have HC0 := Aside0.mk hc0
 clear hr0 hc0
 have H : (firkinlaw12_Small.l0 k l0 0) = some r := h
 clear h
 have H' := Aside0.mk H
 clear H
 go_enter Try.func9, Try.ntmps9
 go_wp2
 go_loopg [3] k (fun kq v3 w' => ∃ (x3_1 : Int), v3 = .int .i64 x3_1 ∧ Aside0 (firkinlaw12_Small.l0 kq l0 x3_1 = some r) ∧ Aside0 (kq ≤ k) ∧ Drawn0 w w')
 case atStart => exact ⟨(0), (by first | rfl | (simp; done) | (simp [*]; done)), H', ⟨Nat.le_refl _⟩, by repeat (first | exact Drawn0.refl _ | apply Drawn0.step)⟩
 case round =>
  clear H'
  obtain ⟨x3_1, rfl, HA, HK1, ⟨m1, rfl⟩⟩ := hrel
  cases gk with
  | zero => exact absurd HA.out (by simp [firkinlaw12_Small.l0])
  | succ k1 =>
   have H := HA.out
   clear HA
   simp only [firkinlaw12_Small.l0] at H
   have HC2 := Aside0.mk H
   clear H
   go_upto_region 2 with (fail)
   go_cut [11] (fun v11 wc => ∃ (kq : Nat) (x11_1 : Bool), v11 = .bool x11_1 ∧ Aside0 (firkinlaw12_Small.j1 kq l0 x3_1 x11_1 = some r) ∧ Aside0 (kq ≤ k1) ∧ Drawn0 w wc)
   case first =>
    have H := HC2.out
    clear HC2
    by_cases c3 : x3_1 < (l0.length : Int)
    ·rw [if_pos c3] at H
     have c3b0 : decide (x3_1 < (l0.length : Int)) = true := decide_eq_true c3
     clear c3
     (first | rw [c3b0] | (simp only [i64_w, i32_w]; rw [c3b0]) | skip)
     have H' := Aside0.mk H
     clear H
     go_wp2
     go_meet
     case rel => exact ⟨_, (decide (x3_1 < 30)), (by first | rfl | (simp; done) | (simp [*]; done)), H', ⟨by have := HK1.out; first | omega | exact Nat.le_refl _⟩, by repeat (first | exact Drawn0.refl _ | apply Drawn0.step)⟩
    ·rw [if_neg c3] at H
     have c3b0 : decide (x3_1 < (l0.length : Int)) = false := decide_eq_false c3
     clear c3
     (first | rw [c3b0] | (simp only [i64_w, i32_w]; rw [c3b0]) | skip)
     have H' := Aside0.mk H
     clear H
     go_wp2
     go_meet
     case rel => exact ⟨_, (false), (by first | rfl | (simp; done) | (simp [*]; done)), H', ⟨by have := HK1.out; first | omega | exact Nat.le_refl _⟩, by repeat (first | exact Drawn0.refl _ | apply Drawn0.step)⟩
   case rest =>
    clear HC2
    try clear p2
    try clear c3
    try clear c3b0
    obtain ⟨kq, x11_1, rfl, HA, HJ1, ⟨mc1, rfl⟩⟩ := hcut
    cases kq with
    | zero => exact absurd HA.out (by simp [firkinlaw12_Small.j1])
    | succ kj1 =>
     have H := HA.out
     clear HA
     simp only [firkinlaw12_Small.j1] at H
     by_cases c4 : x11_1 = true
     ·subst c4
      have H1 : (if 0 ≤ x3_1 then (if x3_1 < (l0.length : Int) then (if (((rd_T64 l0 x3_1).f0).size : Int) > 100 then (some false) else (firkinlaw12_Small.l0 kj1 l0 (wrap64 (x3_1 + 1)))) else (none)) else (none)) = some r := by rw [if_pos rfl] at H; exact H
      clear H
      have H := H1
      clear H1
      by_cases c5 : 0 ≤ x3_1
      ·rw [if_pos c5] at H
       have c5b0 : decide (0 ≤ x3_1) = true := decide_eq_true c5
       clear c5
       by_cases c6 : x3_1 < (l0.length : Int)
       ·rw [if_pos c6] at H
        have c6b0 : decide (x3_1 < (l0.length : Int)) = true := decide_eq_true c6
        clear c6
        by_cases c7 : (((rd_T64 l0 x3_1).f0).size : Int) > 100
        ·rw [if_pos c7] at H
         have c7b0 : decide (100 < (((rd_T64 l0 x3_1).f0).size : Int)) = true := decide_eq_true c7
         have c7b1 : decide (100 < ((rd_T64 l0 x3_1).f0).size) = true := decide_eq_true (by omega)
         clear c7
         obtain rfl := Option.some.inj H
         have p101 : 0 ≤ (x3_1 : Int) := dt_
         have q101 : x3_1 < (l0.length : Int) := dt_
         obtain ⟨ad101, e101, hx101_0, hx101_1, hx101_2⟩ := at_T64 HR0.out x3_1 p101 q101
         cases e101
         replace p101 := eq_true p101
         replace q101 := eq_true q101
         go_wp2
         go_ret
         exact ⟨by first | rfl | (simp; done) | (simp [*]; done), by repeat (first | exact Drawn0.refl _ | apply Drawn0.step)⟩
        ·rw [if_neg c7] at H
         have c7b0 : decide (100 < (((rd_T64 l0 x3_1).f0).size : Int)) = false := decide_eq_false c7
         have c7b1 : decide (100 < ((rd_T64 l0 x3_1).f0).size) = false := decide_eq_false (by omega)
         clear c7
         have H' := Aside0.mk H
         clear H
         have p101 : 0 ≤ (x3_1 : Int) := dt_
         have q101 : x3_1 < (l0.length : Int) := dt_
         obtain ⟨ad101, e101, hx101_0, hx101_1, hx101_2⟩ := at_T64 HR0.out x3_1 p101 q101
         cases e101
         replace p101 := eq_true p101
         replace q101 := eq_true q101
         go_wp2
         go_roundg kj1
         case measure => have := HK1.out; have := HJ1.out; omega
         case rel => exact ⟨(wrap64 (x3_1 + 1)), (by first | rfl | (simp; done) | (simp [*]; done)), H', ⟨by have := HK1.out; have := HJ1.out; omega⟩, by repeat (first | exact Drawn0.refl _ | apply Drawn0.step)⟩
       ·rw [if_neg c6] at H
        exact absurd H (by simp)
      ·rw [if_neg c5] at H
       exact absurd H (by simp)
     ·replace c4 := Bool.eq_false_iff.mpr c4
      subst c4
      have H1 : (some (decide ((l0.length : Int) ≤ 20))) = some r := by rw [if_neg (show ¬ (false = true) by decide)] at H; exact H
      clear H
      have H := H1
      clear H1
      obtain rfl := Option.some.inj H
      go_wp2
      go_ret
      exact ⟨by first | rfl | (simp; done) | (simp [*]; done), by repeat (first | exact Drawn0.refl _ | apply Drawn0.step)⟩
end Go.Proofs.Ytdedmhmomoejkaa.X
namespace Go.Proofs.Ytdedmhmomoejkaa.X
open Go.RowKit Go.Proofs.YtdedmhmomoejkaaW.PrintWords Go.Proofs.YtdedmhmomoejkaaW.PrintLast Go.Proofs.YtdedmhmomoejkaaW.PrintMore
attribute [local go_sem] max2_int max_two
set_option linter.unusedVariables false
set_option linter.unusedSimpArgs false
mutual
def firkinref17_Small.j0 : Nat → Int → Bool → Int → ByteArray → Int → Bool → Int → ByteArray → Int → ByteArray → List (S27) → Option (Bool)
 | 0, _, _, _, _, _, _, _, _, _, _, _ => none
 | k + 1, x1, x32, x103000, x103001, x103002, x103003, x103004, x103005, x103006, x103007, x103008 => if x32 = true then (some false) else (firkinref17_Small.l0 k x1 0 x103000 x103001 x103002 x103003 x103004 x103005 x103006 x103007 x103008)
def firkinref17_Small.l0 : Nat → Int → Int → Int → ByteArray → Int → Bool → Int → ByteArray → Int → ByteArray → List (S27) → Option (Bool)
 | 0, _, _, _, _, _, _, _, _, _, _, _ => none
 | k + 1, x1, x5, x103000, x103001, x103002, x103003, x103004, x103005, x103006, x103007, x103008 => if x5 < (x103008.length : Int) then (if 0 ≤ x5 then ((firkinref17_Small.f k ((rd_T27 x103008 x5).f0) ((rd_T27 x103008 x5).f1) ((rd_T27 x103008 x5).f2) ((rd_T27 x103008 x5).f3.f0) ((rd_T27 x103008 x5).f3.f1) ((rd_T27 x103008 x5).f3.f2) ((rd_T27 x103008 x5).f4) ((rd_T27 x103008 x5).f5) ((rd_T27 x103008 x5).f6) (wrap64 (x1 - 1))).bind fun t104 => (if t104 = true then (firkinref17_Small.l0 k x1 (wrap64 (x5 + 1)) x103000 x103001 x103002 x103003 x103004 x103005 x103006 x103007 x103008) else (some false))) else (none)) else (some true)
def firkinref17_Small.f : Nat → Int → ByteArray → Int → Bool → Int → ByteArray → Int → ByteArray → List (S27) → Int → Option (Bool)
 | 0, _, _, _, _, _, _, _, _, _, _ => none
 | k + 1, a0_0, a0_1, a0_2, a0_3, a0_4, a0_5, a0_6, a0_7, l0_8, a1 => if a1 < 1 then (firkinref17_Small.j0 k a1 true a0_0 a0_1 a0_2 a0_3 a0_4 a0_5 a0_6 a0_7 l0_8) else (if (l0_8.length : Int) > 20 then (firkinref17_Small.j0 k a1 true a0_0 a0_1 a0_2 a0_3 a0_4 a0_5 a0_6 a0_7 l0_8) else (if (a0_1.size : Int) > 100 then (firkinref17_Small.j0 k a1 true a0_0 a0_1 a0_2 a0_3 a0_4 a0_5 a0_6 a0_7 l0_8) else (if (a0_7.size : Int) > 100 then (firkinref17_Small.j0 k a1 true a0_0 a0_1 a0_2 a0_3 a0_4 a0_5 a0_6 a0_7 l0_8) else (firkinref17_Small.j0 k a1 (decide ((a0_5.size : Int) > 100)) a0_0 a0_1 a0_2 a0_3 a0_4 a0_5 a0_6 a0_7 l0_8))))
end
theorem firkinref17_Small.mono_l : ∀ k, (∀ y0 y1 y2 y3 y4 y5 y6 y7 y8 y9, LeO (firkinref17_Small.f k y0 y1 y2 y3 y4 y5 y6 y7 y8 y9) (firkinref17_Small.f (k + 1) y0 y1 y2 y3 y4 y5 y6 y7 y8 y9)) ∧ (∀ y0 y1 y2 y3 y4 y5 y6 y7 y8 y9 y10, LeO (firkinref17_Small.j0 k y0 y1 y2 y3 y4 y5 y6 y7 y8 y9 y10) (firkinref17_Small.j0 (k + 1) y0 y1 y2 y3 y4 y5 y6 y7 y8 y9 y10)) ∧ (∀ y0 y1 y2 y3 y4 y5 y6 y7 y8 y9 y10, LeO (firkinref17_Small.l0 k y0 y1 y2 y3 y4 y5 y6 y7 y8 y9 y10) (firkinref17_Small.l0 (k + 1) y0 y1 y2 y3 y4 y5 y6 y7 y8 y9 y10))
 | 0 => ⟨fun _ _ _ _ _ _ _ _ _ _ r h => by simp [firkinref17_Small.f] at h, fun _ _ _ _ _ _ _ _ _ _ _ r h => by simp [firkinref17_Small.j0] at h, fun _ _ _ _ _ _ _ _ _ _ _ r h => by simp [firkinref17_Small.l0] at h⟩
 | k + 1 => by
  obtain ⟨ih0, ih1, ih2⟩ := firkinref17_Small.mono_l k
  refine ⟨?_, ?_, ?_⟩
  ·intro y0 y1 y2 y3 y4 y5 y6 y7 y8 y9
   unfold firkinref17_Small.f
   repeat' first
   | (with_reducible exact ih0 _ _ _ _ _ _ _ _ _ _)
   | (with_reducible exact ih1 _ _ _ _ _ _ _ _ _ _ _)
   | (with_reducible exact ih2 _ _ _ _ _ _ _ _ _ _ _)
   | (with_reducible exact LeO.refl _)
   | (with_reducible exact LeO.none _)
   | (with_reducible refine LeO.ite ?_ ?_)
   | (with_reducible refine LeO.bind ?_ (fun _ => ?_))
   | exact ih0 _ _ _ _ _ _ _ _ _ _
   | exact ih1 _ _ _ _ _ _ _ _ _ _ _
   | exact ih2 _ _ _ _ _ _ _ _ _ _ _
   | exact LeO.none _
   | refine LeO.ite ?_ ?_
   | refine LeO.bind ?_ (fun _ => ?_)
  ·intro y0 y1 y2 y3 y4 y5 y6 y7 y8 y9 y10
   unfold firkinref17_Small.j0
   repeat' first
   | (with_reducible exact ih0 _ _ _ _ _ _ _ _ _ _)
   | (with_reducible exact ih1 _ _ _ _ _ _ _ _ _ _ _)
   | (with_reducible exact ih2 _ _ _ _ _ _ _ _ _ _ _)
   | (with_reducible exact LeO.refl _)
   | (with_reducible exact LeO.none _)
   | (with_reducible refine LeO.ite ?_ ?_)
   | (with_reducible refine LeO.bind ?_ (fun _ => ?_))
   | exact ih0 _ _ _ _ _ _ _ _ _ _
   | exact ih1 _ _ _ _ _ _ _ _ _ _ _
   | exact ih2 _ _ _ _ _ _ _ _ _ _ _
   | exact LeO.none _
   | refine LeO.ite ?_ ?_
   | refine LeO.bind ?_ (fun _ => ?_)
  ·intro y0 y1 y2 y3 y4 y5 y6 y7 y8 y9 y10
   unfold firkinref17_Small.l0
   repeat' first
   | (with_reducible exact ih0 _ _ _ _ _ _ _ _ _ _)
   | (with_reducible exact ih1 _ _ _ _ _ _ _ _ _ _ _)
   | (with_reducible exact ih2 _ _ _ _ _ _ _ _ _ _ _)
   | (with_reducible exact LeO.refl _)
   | (with_reducible exact LeO.none _)
   | (with_reducible refine LeO.ite ?_ ?_)
   | (with_reducible refine LeO.bind ?_ (fun _ => ?_))
   | exact ih0 _ _ _ _ _ _ _ _ _ _
   | exact ih1 _ _ _ _ _ _ _ _ _ _ _
   | exact ih2 _ _ _ _ _ _ _ _ _ _ _
   | exact LeO.none _
   | refine LeO.ite ?_ ?_
   | refine LeO.bind ?_ (fun _ => ?_)
theorem firkinref17_Small.mono : ∀ a0 a1 a2 a3 a4 a5 a6 a7 a8 a9 k, LeO (firkinref17_Small.f k a0 a1 a2 a3 a4 a5 a6 a7 a8 a9) (firkinref17_Small.f (k + 1) a0 a1 a2 a3 a4 a5 a6 a7 a8 a9) := by
 intro a0 a1 a2 a3 a4 a5 a6 a7 a8 a9 k
 obtain ⟨ih0, ih1, ih2⟩ := firkinref17_Small.mono_l k
 exact ih0 a0 a1 a2 a3 a4 a5 a6 a7 a8 a9
set_option maxHeartbeats 8000000 in
set_option maxRecDepth 100000 in
theorem firkinref17_Small.calls (k : Nat) : ∀ (a0_0 : Int) (a0_1 : ByteArray) (a0_2 : Int) (a0_3 : Bool) (a0_4 : Int) (a0_5 : ByteArray) (a0_6 : Int) (a0_7 : ByteArray) (A0_8 : Option Addr) (c0_8 : Nat) (l0_8 : List (S27)) (a1 : Int) (r : Bool) (w : World) (hr0_8 : Kd.C k27 w A0_8 l0_8.length l0_8) (hc0_8 : l0_8.length ≤ c0_8) (h : firkinref17_Small.f k a0_0 a0_1 a0_2 a0_3 a0_4 a0_5 a0_6 a0_7 l0_8 a1 = some r),
  Calls Try.prog 10 #[.agg #[.int .i64 a0_0, .string a0_1, .int .i64 a0_2, .bool a0_3, .int .i64 a0_4, .string a0_5, .int .i64 a0_6, .string a0_7, .slice A0_8 l0_8.length c0_8], .int .i64 a1] w fun e w' => e = .returned (.bool r) ∧ Below w.heap.size w w' := by
 induction k using Nat.strongRecOn with
 | _ k ih =>
 intro a0_0 a0_1 a0_2 a0_3 a0_4 a0_5 a0_6 a0_7 A0_8 c0_8 l0_8 a1 r w hr0_8 hc0_8 h
 cases k with
 | zero => exact absurd h (by simp [firkinref17_Small.f])
 | succ k =>
 simp only [firkinref17_Small.f] at h
 have hu27 := Try.underlying27
 have HR0_8 := Aside0.mk hr0_8
 have HC0_8 := Aside0.mk hc0_8
 clear hr0_8 hc0_8
 have HB := Aside0.mk (Below.refl w.heap.size w)
 have H : (if a1 < 1 then (firkinref17_Small.j0 k a1 true a0_0 a0_1 a0_2 a0_3 a0_4 a0_5 a0_6 a0_7 l0_8) else (if (l0_8.length : Int) > 20 then (firkinref17_Small.j0 k a1 true a0_0 a0_1 a0_2 a0_3 a0_4 a0_5 a0_6 a0_7 l0_8) else (if (a0_1.size : Int) > 100 then (firkinref17_Small.j0 k a1 true a0_0 a0_1 a0_2 a0_3 a0_4 a0_5 a0_6 a0_7 l0_8) else (if (a0_7.size : Int) > 100 then (firkinref17_Small.j0 k a1 true a0_0 a0_1 a0_2 a0_3 a0_4 a0_5 a0_6 a0_7 l0_8) else (firkinref17_Small.j0 k a1 (decide ((a0_5.size : Int) > 100)) a0_0 a0_1 a0_2 a0_3 a0_4 a0_5 a0_6 a0_7 l0_8))))) = some r := h
 clear h
 have HC3 := Aside0.mk H
 clear H
 go_enter Try.func10, Try.ntmps10
 go_upto_region 1 with (first | ((with_reducible refine gate_dst (N := 2) rfl ?_); (try (refine gate_guard (by rfl) ?_; dsimp only)); refine bx_ (N := 2) (cs := #[.int .i64 a0_0, .string a0_1, .int .i64 a0_2, .bool a0_3, .int .i64 a0_4, .string a0_5, .int .i64 a0_6, .string a0_7, .slice A0_8 l0_8.length c0_8]) (t := 27) ?_; intro gb102 hg w4 hbox hb; have BK102 := Aside0.mk (hbox); have GW102 := ge_ HB hg; have GE102 := ge_ HB hg; replace HB := bs_ HB hb; clear hb hbox hg))
 (try simp only [Act.put, List.setIfInBounds_toArray, List.set_cons_zero, List.set_cons_succ])
 go_cut [32] (fun v32 wc => ∃ (kq : Nat) (x32_2 : Bool), v32 = .bool x32_2 ∧ Aside0 (firkinref17_Small.j0 kq a1 x32_2 a0_0 a0_1 a0_2 a0_3 a0_4 a0_5 a0_6 a0_7 l0_8 = some r) ∧ Aside0 (kq ≤ k) ∧ Aside0 (wc.heap[gb102]? = some (.cells #[.int .i64 a0_0, .string a0_1, .int .i64 a0_2, .bool a0_3, .int .i64 a0_4, .string a0_5, .int .i64 a0_6, .string a0_7, (.slice A0_8 l0_8.length c0_8)] 27 (0, 0))) ∧ Aside0 (Below w.heap.size w wc))
 case first =>
  have H := HC3.out
  clear HC3
  by_cases c5 : a1 < 1
  ·rw [if_pos c5] at H
   have c5b0 : decide (a1 < 1) = true := decide_eq_true c5
   clear c5
   (first | rw [c5b0] | (simp only [i64_w, i32_w]; rw [c5b0]) | skip)
   have H' := Aside0.mk H
   clear H
   go_wp2
   go_meet
   case rel => exact ⟨_, (true), (by first | rfl | (simp; done) | (simp [*]; done)), H', ⟨by first | omega | exact Nat.le_refl _⟩, ⟨by (with_reducible repeat (first | refine blk_drewN ?_ _ | refine blk_drew ?_ | refine blk_alloc ?_ _)); exact BK102.out⟩, ⟨by repeat (first | (with_reducible first | exact HB.out | apply below_alloc | apply pw_below_drewN | apply below_drew1 | refine below_set ?_ GE102.out) | exact HB.out)⟩⟩
  ·rw [if_neg c5] at H
   have c5b0 : decide (a1 < 1) = false := decide_eq_false c5
   clear c5
   (first | rw [c5b0] | (simp only [i64_w, i32_w]; rw [c5b0]) | skip)
   by_cases c6 : (l0_8.length : Int) > 20
   ·rw [if_pos c6] at H
    have c6b0 : decide (20 < (l0_8.length : Int)) = true := decide_eq_true c6
    have c6b1 : decide (20 < l0_8.length) = true := decide_eq_true (by omega)
    clear c6
    have H' := Aside0.mk H
    clear H
    obtain ⟨C7_0, C7_1, C7_2, C7_3, C7_4, C7_5, C7_6, C7_7, C7_8⟩ := cz9_ BK102.out
    obtain ⟨F7_0, F7_1, F7_2, F7_3, F7_4, F7_5, F7_6, F7_7, F7_8⟩ := fz9_ BK102.out
    go_wp2
    go_meet
    case rel => exact ⟨_, (true), (by first | rfl | (simp; done) | (simp [*]; done)), H', ⟨by first | omega | exact Nat.le_refl _⟩, ⟨by (with_reducible repeat (first | refine blk_drewN ?_ _ | refine blk_drew ?_ | refine blk_alloc ?_ _)); exact BK102.out⟩, ⟨by repeat (first | (with_reducible first | exact HB.out | apply below_alloc | apply pw_below_drewN | apply below_drew1 | refine below_set ?_ GE102.out) | exact HB.out)⟩⟩
   ·rw [if_neg c6] at H
    have c6b0 : decide (20 < (l0_8.length : Int)) = false := decide_eq_false c6
    have c6b1 : decide (20 < l0_8.length) = false := decide_eq_false (by omega)
    clear c6
    by_cases c8 : (a0_1.size : Int) > 100
    ·rw [if_pos c8] at H
     have c8b0 : decide (100 < (a0_1.size : Int)) = true := decide_eq_true c8
     have c8b1 : decide (100 < a0_1.size) = true := decide_eq_true (by omega)
     clear c8
     have H' := Aside0.mk H
     clear H
     obtain ⟨C9_0, C9_1, C9_2, C9_3, C9_4, C9_5, C9_6, C9_7, C9_8⟩ := cz9_ BK102.out
     obtain ⟨F9_0, F9_1, F9_2, F9_3, F9_4, F9_5, F9_6, F9_7, F9_8⟩ := fz9_ BK102.out
     go_wp2
     go_meet
     case rel => exact ⟨_, (true), (by first | rfl | (simp; done) | (simp [*]; done)), H', ⟨by first | omega | exact Nat.le_refl _⟩, ⟨by (with_reducible repeat (first | refine blk_drewN ?_ _ | refine blk_drew ?_ | refine blk_alloc ?_ _)); exact BK102.out⟩, ⟨by repeat (first | (with_reducible first | exact HB.out | apply below_alloc | apply pw_below_drewN | apply below_drew1 | refine below_set ?_ GE102.out) | exact HB.out)⟩⟩
    ·rw [if_neg c8] at H
     have c8b0 : decide (100 < (a0_1.size : Int)) = false := decide_eq_false c8
     have c8b1 : decide (100 < a0_1.size) = false := decide_eq_false (by omega)
     clear c8
     by_cases c10 : (a0_7.size : Int) > 100
     ·rw [if_pos c10] at H
      have c10b0 : decide (100 < (a0_7.size : Int)) = true := decide_eq_true c10
      have c10b1 : decide (100 < a0_7.size) = true := decide_eq_true (by omega)
      clear c10
      have H' := Aside0.mk H
      clear H
      obtain ⟨C11_0, C11_1, C11_2, C11_3, C11_4, C11_5, C11_6, C11_7, C11_8⟩ := cz9_ BK102.out
      obtain ⟨F11_0, F11_1, F11_2, F11_3, F11_4, F11_5, F11_6, F11_7, F11_8⟩ := fz9_ BK102.out
      go_wp2
      go_meet
      case rel => exact ⟨_, (true), (by first | rfl | (simp; done) | (simp [*]; done)), H', ⟨by first | omega | exact Nat.le_refl _⟩, ⟨by (with_reducible repeat (first | refine blk_drewN ?_ _ | refine blk_drew ?_ | refine blk_alloc ?_ _)); exact BK102.out⟩, ⟨by repeat (first | (with_reducible first | exact HB.out | apply below_alloc | apply pw_below_drewN | apply below_drew1 | refine below_set ?_ GE102.out) | exact HB.out)⟩⟩
     ·rw [if_neg c10] at H
      have c10b0 : decide (100 < (a0_7.size : Int)) = false := decide_eq_false c10
      have c10b1 : decide (100 < a0_7.size) = false := decide_eq_false (by omega)
      clear c10
      have H' := Aside0.mk H
      clear H
      obtain ⟨C12_0, C12_1, C12_2, C12_3, C12_4, C12_5, C12_6, C12_7, C12_8⟩ := cz9_ BK102.out
      obtain ⟨F12_0, F12_1, F12_2, F12_3, F12_4, F12_5, F12_6, F12_7, F12_8⟩ := fz9_ BK102.out
      go_wp2
      go_meet
      case rel => exact ⟨_, (decide ((a0_5.size : Int) > 100)), (by first | rfl | (simp; done) | (simp [*]; done)), H', ⟨by first | omega | exact Nat.le_refl _⟩, ⟨by (with_reducible repeat (first | refine blk_drewN ?_ _ | refine blk_drew ?_ | refine blk_alloc ?_ _)); exact BK102.out⟩, ⟨by repeat (first | (with_reducible first | exact HB.out | apply below_alloc | apply pw_below_drewN | apply below_drew1 | refine below_set ?_ GE102.out) | exact HB.out)⟩⟩
 case rest =>
  clear HC3
  try clear c1
  try clear p2
  try clear c5
  try clear c5b0
  try clear c6
  try clear c6b0
  try clear c6b1
  try clear c8
  try clear c8b0
  try clear c8b1
  try clear c10
  try clear c10b0
  try clear c10b1
  try clear C11_0 C11_1 C11_2 C11_3 C11_4 C11_5 C11_6 C11_7 C11_8
  try clear C12_0 C12_1 C12_2 C12_3 C12_4 C12_5 C12_6 C12_7 C12_8
  try clear C7_0 C7_1 C7_2 C7_3 C7_4 C7_5 C7_6 C7_7 C7_8
  try clear C9_0 C9_1 C9_2 C9_3 C9_4 C9_5 C9_6 C9_7 C9_8
  try clear F11_0 F11_1 F11_2 F11_3 F11_4 F11_5 F11_6 F11_7 F11_8
  try clear F12_0 F12_1 F12_2 F12_3 F12_4 F12_5 F12_6 F12_7 F12_8
  try clear F7_0 F7_1 F7_2 F7_3 F7_4 F7_5 F7_6 F7_7 F7_8
  try clear F9_0 F9_1 F9_2 F9_3 F9_4 F9_5 F9_6 F9_7 F9_8
  obtain ⟨kq, x32_2, rfl, HA, HJ2, BK102, HB⟩ := hcut
  cases kq with
  | zero => exact absurd HA.out (by simp [firkinref17_Small.j0])
  | succ kj2 =>
   have H := HA.out
   clear HA
   simp only [firkinref17_Small.j0] at H
   by_cases c13 : x32_2 = true
   ·subst c13
    have H1 : (some false) = some r := by rw [if_pos rfl] at H; exact H
    clear H
    have H := H1
    clear H1
    obtain rfl := Option.some.inj H
    go_wp2
    go_ret
    exact en_ HB
   ·replace c13 := Bool.eq_false_iff.mpr c13
    subst c13
    have H1 : (firkinref17_Small.l0 kj2 a1 0 a0_0 a0_1 a0_2 a0_3 a0_4 a0_5 a0_6 a0_7 l0_8) = some r := by rw [if_neg (show ¬ (false = true) by decide)] at H; exact H
    clear H
    have H := H1
    clear H1
    have H' := Aside0.mk H
    clear H
    go_wp2
    go_loopg [5] kj2 (fun kq v5 w' => ∃ (x5_2 : Int), v5 = .int .i64 x5_2 ∧ Aside0 (firkinref17_Small.l0 kq a1 x5_2 a0_0 a0_1 a0_2 a0_3 a0_4 a0_5 a0_6 a0_7 l0_8 = some r) ∧ Aside0 (kq ≤ kj2) ∧ Aside0 (w'.heap[gb102]? = some (.cells #[.int .i64 a0_0, .string a0_1, .int .i64 a0_2, .bool a0_3, .int .i64 a0_4, .string a0_5, .int .i64 a0_6, .string a0_7, (.slice A0_8 l0_8.length c0_8)] 27 (0, 0))) ∧ Aside0 (Below w.heap.size w w'))
    case atStart => exact ⟨(0), (by first | rfl | (simp; done) | (simp [*]; done)), H', ⟨Nat.le_refl _⟩, ⟨by (with_reducible repeat (first | refine blk_drewN ?_ _ | refine blk_drew ?_ | refine blk_alloc ?_ _)); exact BK102.out⟩, ⟨by repeat (first | (with_reducible first | exact HB.out | apply below_alloc | apply pw_below_drewN | apply below_drew1 | refine below_set ?_ GE102.out) | exact HB.out)⟩⟩
    case round =>
     clear H'
     try clear c1
     try clear p2
     try clear c5
     try clear c5b0
     try clear c6
     try clear c6b0
     try clear c6b1
     try clear c8
     try clear c8b0
     try clear c8b1
     try clear c10
     try clear c10b0
     try clear c10b1
     try clear c13
     try clear C11_0 C11_1 C11_2 C11_3 C11_4 C11_5 C11_6 C11_7 C11_8
     try clear C12_0 C12_1 C12_2 C12_3 C12_4 C12_5 C12_6 C12_7 C12_8
     try clear C7_0 C7_1 C7_2 C7_3 C7_4 C7_5 C7_6 C7_7 C7_8
     try clear C9_0 C9_1 C9_2 C9_3 C9_4 C9_5 C9_6 C9_7 C9_8
     try clear F11_0 F11_1 F11_2 F11_3 F11_4 F11_5 F11_6 F11_7 F11_8
     try clear F12_0 F12_1 F12_2 F12_3 F12_4 F12_5 F12_6 F12_7 F12_8
     try clear F7_0 F7_1 F7_2 F7_3 F7_4 F7_5 F7_6 F7_7 F7_8
     try clear F9_0 F9_1 F9_2 F9_3 F9_4 F9_5 F9_6 F9_7 F9_8
     try clear p2
     obtain ⟨x5_2, rfl, HA, HK2, BK102, HB⟩ := hrel
     cases gk with
     | zero => exact absurd HA.out (by simp [firkinref17_Small.l0])
     | succ k2 =>
      have H := HA.out
      clear HA
      simp only [firkinref17_Small.l0] at H
      by_cases c14 : x5_2 < (l0_8.length : Int)
      ·rw [if_pos c14] at H
       have c14b0 : decide (x5_2 < (l0_8.length : Int)) = true := decide_eq_true c14
       clear c14
       by_cases c15 : 0 ≤ x5_2
       ·rw [if_pos c15] at H
        have c15b0 : decide (0 ≤ x5_2) = true := decide_eq_true c15
        clear c15
        replace H := Option.bind_eq_some_iff.mp H
        obtain ⟨t104, A160, H⟩ := H
        replace H : (if t104 = true then (firkinref17_Small.l0 k2 a1 (wrap64 (x5_2 + 1)) a0_0 a0_1 a0_2 a0_3 a0_4 a0_5 a0_6 a0_7 l0_8) else (some false)) = some r := H
        have A16 := Aside0.mk A160
        clear A160
        by_cases c17 : t104 = true
        ·subst c17
         have H1 : (firkinref17_Small.l0 k2 a1 (wrap64 (x5_2 + 1)) a0_0 a0_1 a0_2 a0_3 a0_4 a0_5 a0_6 a0_7 l0_8) = some r := by rw [if_pos rfl] at H; exact H
         clear H
         have H := H1
         clear H1
         have H' := Aside0.mk H
         clear H
         obtain ⟨C18_0, C18_1, C18_2, C18_3, C18_4, C18_5, C18_6, C18_7, C18_8⟩ := cz9_ BK102.out
         obtain ⟨F18_0, F18_1, F18_2, F18_3, F18_4, F18_5, F18_6, F18_7, F18_8⟩ := fz9_ BK102.out
         have p103 : 0 ≤ (x5_2 : Int) := dt_
         have q103 : x5_2 < (l0_8.length : Int) := dt_
         obtain ⟨ad103, A103_8, c103_8, e103, hx103_0, hx103_1, hx103_2, hx103_3, hx103_4, hx103_5, hx103_6, hx103_7, hx103_8, hl103_8, hi103_8⟩ := at_T27 HR0_8.out x5_2 p103 q103
         cases e103
         replace hx103_0 := hc_ HB hx103_0
         replace hx103_1 := hc_ HB hx103_1
         replace hx103_2 := hc_ HB hx103_2
         replace hx103_3 := hc_ HB hx103_3
         replace hx103_4 := hc_ HB hx103_4
         replace hx103_5 := hc_ HB hx103_5
         replace hx103_6 := hc_ HB hx103_6
         replace hx103_7 := hc_ HB hx103_7
         replace hx103_8 := hc_ HB hx103_8
         have HR103_8 := Aside0.mk hi103_8
         have HC103_8 := Aside0.mk hl103_8
         clear hi103_8 hl103_8
         replace p103 := eq_true p103
         replace q103 := eq_true q103
         go_wp2_with (first | ((with_reducible refine gate_callee (f := 10) rfl ?_); refine gl_ (some 47) rfl Try.func10 #[.agg #[.int .i64 ((rd_T27 l0_8 x5_2).f0), .string ((rd_T27 l0_8 x5_2).f1), .int .i64 ((rd_T27 l0_8 x5_2).f2), .bool ((rd_T27 l0_8 x5_2).f3.f0), .int .i64 ((rd_T27 l0_8 x5_2).f3.f1), .string ((rd_T27 l0_8 x5_2).f3.f2), .int .i64 ((rd_T27 l0_8 x5_2).f4), .string ((rd_T27 l0_8 x5_2).f5), .slice A103_8 ((rd_T27 l0_8 x5_2).f6).length c103_8], .int .i64 (wrap64 (a1 - 1))] ?_; (with_reducible refine (ih k2 (by have := HJ2.out; have := HK2.out; omega) ((rd_T27 l0_8 x5_2).f0) ((rd_T27 l0_8 x5_2).f1) ((rd_T27 l0_8 x5_2).f2) ((rd_T27 l0_8 x5_2).f3.f0) ((rd_T27 l0_8 x5_2).f3.f1) ((rd_T27 l0_8 x5_2).f3.f2) ((rd_T27 l0_8 x5_2).f4) ((rd_T27 l0_8 x5_2).f5) _ _ ((rd_T27 l0_8 x5_2).f6) (wrap64 (a1 - 1)) true _ ?side1 ?side2 A16.out).mono ?_); (case side1 => repeat (first | exact (Kd.C_below HR103_8.out HB.out) | (with_reducible refine Kd.C_alloc ?_ _) | (with_reducible refine Kd.C_drewN ?_ _) | (with_reducible refine Kd.C_drew ?_))); (case side2 => exact HC103_8.out); rintro e w19 ⟨rfl, hb⟩; refine ⟨_, rfl, ?_⟩;  replace BK102 := bk_ BK102 hb; replace HB := bs_ HB hb; (try clear hb)))
         go_roundg k2
         case measure => have := HJ2.out; have := HK2.out; omega
         case rel => exact ⟨(wrap64 (x5_2 + 1)), (by first | rfl | (simp; done) | (simp [*]; done)), H', ⟨by have := HJ2.out; have := HK2.out; omega⟩, ⟨by (with_reducible repeat (first | refine blk_drewN ?_ _ | refine blk_drew ?_ | refine blk_alloc ?_ _)); exact BK102.out⟩, ⟨by repeat (first | (with_reducible first | exact HB.out | apply below_alloc | apply pw_below_drewN | apply below_drew1 | refine below_set ?_ GE102.out) | exact HB.out)⟩⟩
        ·replace c17 := Bool.eq_false_iff.mpr c17
         subst c17
         have H1 : (some false) = some r := by rw [if_neg (show ¬ (false = true) by decide)] at H; exact H
         clear H
         have H := H1
         clear H1
         obtain rfl := Option.some.inj H
         obtain ⟨C20_0, C20_1, C20_2, C20_3, C20_4, C20_5, C20_6, C20_7, C20_8⟩ := cz9_ BK102.out
         obtain ⟨F20_0, F20_1, F20_2, F20_3, F20_4, F20_5, F20_6, F20_7, F20_8⟩ := fz9_ BK102.out
         have p103 : 0 ≤ (x5_2 : Int) := dt_
         have q103 : x5_2 < (l0_8.length : Int) := dt_
         obtain ⟨ad103, A103_8, c103_8, e103, hx103_0, hx103_1, hx103_2, hx103_3, hx103_4, hx103_5, hx103_6, hx103_7, hx103_8, hl103_8, hi103_8⟩ := at_T27 HR0_8.out x5_2 p103 q103
         cases e103
         replace hx103_0 := hc_ HB hx103_0
         replace hx103_1 := hc_ HB hx103_1
         replace hx103_2 := hc_ HB hx103_2
         replace hx103_3 := hc_ HB hx103_3
         replace hx103_4 := hc_ HB hx103_4
         replace hx103_5 := hc_ HB hx103_5
         replace hx103_6 := hc_ HB hx103_6
         replace hx103_7 := hc_ HB hx103_7
         replace hx103_8 := hc_ HB hx103_8
         have HR103_8 := Aside0.mk hi103_8
         have HC103_8 := Aside0.mk hl103_8
         clear hi103_8 hl103_8
         replace p103 := eq_true p103
         replace q103 := eq_true q103
         go_wp2_with (first | ((with_reducible refine gate_callee (f := 10) rfl ?_); refine gl_ (some 47) rfl Try.func10 #[.agg #[.int .i64 ((rd_T27 l0_8 x5_2).f0), .string ((rd_T27 l0_8 x5_2).f1), .int .i64 ((rd_T27 l0_8 x5_2).f2), .bool ((rd_T27 l0_8 x5_2).f3.f0), .int .i64 ((rd_T27 l0_8 x5_2).f3.f1), .string ((rd_T27 l0_8 x5_2).f3.f2), .int .i64 ((rd_T27 l0_8 x5_2).f4), .string ((rd_T27 l0_8 x5_2).f5), .slice A103_8 ((rd_T27 l0_8 x5_2).f6).length c103_8], .int .i64 (wrap64 (a1 - 1))] ?_; (with_reducible refine (ih k2 (by have := HJ2.out; have := HK2.out; omega) ((rd_T27 l0_8 x5_2).f0) ((rd_T27 l0_8 x5_2).f1) ((rd_T27 l0_8 x5_2).f2) ((rd_T27 l0_8 x5_2).f3.f0) ((rd_T27 l0_8 x5_2).f3.f1) ((rd_T27 l0_8 x5_2).f3.f2) ((rd_T27 l0_8 x5_2).f4) ((rd_T27 l0_8 x5_2).f5) _ _ ((rd_T27 l0_8 x5_2).f6) (wrap64 (a1 - 1)) false _ ?side1 ?side2 A16.out).mono ?_); (case side1 => repeat (first | exact (Kd.C_below HR103_8.out HB.out) | (with_reducible refine Kd.C_alloc ?_ _) | (with_reducible refine Kd.C_drewN ?_ _) | (with_reducible refine Kd.C_drew ?_))); (case side2 => exact HC103_8.out); rintro e w21 ⟨rfl, hb⟩; refine ⟨_, rfl, ?_⟩;  replace BK102 := bk_ BK102 hb; replace HB := bs_ HB hb; (try clear hb)))
         go_ret
         exact en_ HB
       ·rw [if_neg c15] at H
        exact absurd H (by simp)
      ·rw [if_neg c14] at H
       have c14b0 : decide (x5_2 < (l0_8.length : Int)) = false := decide_eq_false c14
       clear c14
       obtain rfl := Option.some.inj H
       obtain ⟨C22_0, C22_1, C22_2, C22_3, C22_4, C22_5, C22_6, C22_7, C22_8⟩ := cz9_ BK102.out
       obtain ⟨F22_0, F22_1, F22_2, F22_3, F22_4, F22_5, F22_6, F22_7, F22_8⟩ := fz9_ BK102.out
       go_wp2
       go_ret
       exact en_ HB
end Go.Proofs.Ytdedmhmomoejkaa.X
namespace Go.Proofs.Ytdedmhmomoejkaa.X
open Go.RowKit Go.Proofs.YtdedmhmomoejkaaW.PrintWords Go.Proofs.YtdedmhmomoejkaaW.PrintLast
set_option linter.unusedVariables false
set_option linter.unusedSimpArgs false
def TotP {α : Type} (P : α → Prop) (g : Nat → Option α) : Prop := ∃ r, Ev g r ∧ P r
theorem TotP.some_ {α : Type} {P : α → Prop} {r : α} (h : P r) : TotP P (fun _ => some r) := ⟨r, Ev.now r, h⟩
theorem TotP.ite {α : Type} {P : α → Prop} {c : Prop} [Decidable c] {f g : Nat → Option α} (h : c → TotP P f) (h' : ¬ c → TotP P g) : TotP P (fun k => if c then f k else g k) := by
  by_cases hc : c
  · simp only [if_pos hc]; exact h hc
  · simp only [if_neg hc]; exact h' hc
theorem TotP.bind {α β : Type} {P : α → Prop} {Q : β → Prop} {g : Nat → Option α} {f : Nat → α → Option β} (h : TotP P g) (k : ∀ x, P x → TotP Q (fun n => f n x)) : TotP Q (fun n => (g n).bind (f n)) := by
  obtain ⟨x, hx, hp⟩ := h
  obtain ⟨r, hr, hq⟩ := k x hp
  exact ⟨r, Ev.bind hx hr, hq⟩
theorem TotP.succ {α : Type} {P : α → Prop} {g f : Nat → Option α} (h : ∀ k, g (k + 1) = f k) (k : TotP P f) : TotP P g := by
  obtain ⟨r, hr, hp⟩ := k
  exact ⟨r, Ev.step h hr, hp⟩
theorem small17 : ∀ (m : Nat) (x : S27), m ≤ 1000 → TotP (fun r => r = true → Lens m x) (fun k => firkinref17_Small.f k x.f0 x.f1 x.f2 x.f3.f0 x.f3.f1 x.f3.f2 x.f4 x.f5 x.f6 (m : Int)) := by
  intro m
  induction m with
  | zero =>
    intro x _
    refine TotP.succ (fun k => by simp only [firkinref17_Small.f]; rfl) ?_
    refine TotP.ite (fun _ => ?_) (fun h => absurd (by omega) h)
    refine TotP.succ (fun k => by simp only [firkinref17_Small.j0]; rfl) ?_
    exact TotP.ite (fun _ => TotP.some_ (by simp)) (fun h => absurd trivial h)
  | succ m ih =>
    intro x hm
    have hj : ∀ b, (b = false → x.f6.length ≤ 20) → TotP (fun r => r = true → Lens (m + 1) x) (fun k => firkinref17_Small.j0 k ((m + 1 : Nat) : Int) b x.f0 x.f1 x.f2 x.f3.f0 x.f3.f1 x.f3.f2 x.f4 x.f5 x.f6) := by
      intro b hb
      refine TotP.succ (fun k => by simp only [firkinref17_Small.j0]; rfl) ?_
      refine TotP.ite (fun _ => TotP.some_ (by simp)) (fun hb' => ?_)
      have hlen := hb (by simpa using hb')
      have key : ∀ (n i : Nat), i + n = x.f6.length → (∀ j, j < i → ∀ y, x.f6[j]? = some y → Lens m y) → TotP (fun r => r = true → Lens (m + 1) x) (fun k => firkinref17_Small.l0 k ((m + 1 : Nat) : Int) (i : Int) x.f0 x.f1 x.f2 x.f3.f0 x.f3.f1 x.f3.f2 x.f4 x.f5 x.f6) := by
        intro n
        induction n with
        | zero =>
          intro i hi hall
          refine TotP.succ (fun k => by simp only [firkinref17_Small.l0]; rfl) ?_
          refine TotP.ite (fun h => absurd h (by omega)) (fun _ => TotP.some_ (fun _ => ⟨by omega, fun y hy => ?_⟩))
          obtain ⟨j, hj⟩ := List.mem_iff_getElem?.1 hy
          exact hall j (by have := (List.getElem?_eq_some_iff.1 hj).1; omega) y hj
        | succ n ih2 =>
          intro i hi hall
          refine TotP.succ (fun k => by simp only [firkinref17_Small.l0]; rfl) ?_
          refine TotP.ite (fun _ => ?_) (fun h => absurd (by omega) h)
          refine TotP.ite (fun _ => ?_) (fun h => absurd (by omega) h)
          have hw : wrap64 (((m + 1 : Nat) : Int) - 1) = (m : Int) := by rw [wrap_in (by omega) (by omega)]; omega
          rw [hw]
          refine TotP.bind (ih (rd_T27 x.f6 (i : Int)) (by omega)) (fun t ht => ?_)
          refine TotP.ite (fun hT => ?_) (fun _ => TotP.some_ (by simp))
          rw [wrap_in (by omega) (by omega), show (i : Int) + 1 = ((i + 1 : Nat) : Int) by omega]
          refine ih2 (i + 1) (by omega) (fun j hj y hy => ?_)
          by_cases e : j = i
          · subst e
            have hr : rd_T27 x.f6 (j : Int) = y := by simp [rd_T27, List.getD_eq_getElem?_getD, hy]
            rw [hr] at ht
            exact ht hT
          · exact hall j (by omega) y hy
      have := key x.f6.length 0 (by omega) (fun j hj => absurd hj (Nat.not_lt_zero _))
      simpa using this
    refine TotP.succ (fun k => by simp only [firkinref17_Small.f]; rfl) ?_
    refine TotP.ite (fun h => absurd h (by omega)) (fun _ => ?_)
    refine TotP.ite (fun _ => hj true (by simp)) (fun h20 => ?_)
    refine TotP.ite (fun _ => hj true (by simp)) (fun _ => ?_)
    refine TotP.ite (fun _ => hj true (by simp)) (fun _ => ?_)
    exact hj _ (fun _ => by omega)
theorem Lens.le : ∀ (d e : Nat) (x : S27), d ≤ e → Lens e x → Lens d x
  | 0, _, _, _, _ => trivial
  | d + 1, 0, _, h, _ => by omega
  | d + 1, e + 1, x, h, hl => ⟨hl.1, fun y hy => Lens.le d e y (by omega) (hl.2 y hy)⟩
end Go.Proofs.Ytdedmhmomoejkaa.X
namespace Go.Proofs.Ytdedmhmomoejkaa.X
open Go.RowKit Go.Proofs.YtdedmhmomoejkaaW.PrintWords Go.Proofs.YtdedmhmomoejkaaW.PrintLast
set_option linter.unusedVariables false
set_option linter.unusedSimpArgs false
theorem TotP.weak {α : Type} {P Q : α → Prop} {g : Nat → Option α} (h : TotP P g) (k : ∀ r, P r → Q r) : TotP Q g := by
  obtain ⟨r, h1, h2⟩ := h
  exact ⟨r, h1, k r h2⟩
end Go.Proofs.Ytdedmhmomoejkaa.X
namespace Go.Proofs.Ytdedmhmomoejkaa.X
open Go.RowKit Go.Proofs.YtdedmhmomoejkaaW.PrintWords Go.Proofs.YtdedmhmomoejkaaW.PrintLast Go.Proofs.YtdedmhmomoejkaaW.PrintMore
attribute [local go_sem] max2_int max_two
set_option linter.unusedVariables false
set_option linter.unusedSimpArgs false
attribute [local go_sem high] eqA24
def firkinref17_flat.f (a0_0 : Int) (a0_1 : ByteArray) (a0_2 : Int) (a0_3 : Bool) (a0_4 : Int) (a0_5 : ByteArray) (a0_6 : Int) (a0_7 : ByteArray) (l0_8 : List (S27)) (a1_0 : Int) (a1_1 : ByteArray) (a1_2 : Int) (a1_3 : Bool) (a1_4 : Int) (a1_5 : ByteArray) (a1_6 : Int) (a1_7 : ByteArray) (l1_8 : List (S27)) : Option (Bool) := if a0_0 = a1_0 then (if a0_1.toList = a1_1.toList then (if a0_2 = a1_2 then (if (a0_3 == a1_3 && (a0_4 == a1_4 && (a0_5.toList == a1_5.toList))) = true then (if a0_6 = a1_6 then (some (a0_7.toList == a1_7.toList)) else (some false)) else (some false)) else (some false)) else (some false)) else (some false)
set_option maxHeartbeats 8000000 in
set_option maxRecDepth 100000 in
theorem firkinref17_flat.calls (a0_0 : Int) (a0_1 : ByteArray) (a0_2 : Int) (a0_3 : Bool) (a0_4 : Int) (a0_5 : ByteArray) (a0_6 : Int) (a0_7 : ByteArray) (A0_8 : Option Addr) (c0_8 : Nat) (l0_8 : List (S27)) (a1_0 : Int) (a1_1 : ByteArray) (a1_2 : Int) (a1_3 : Bool) (a1_4 : Int) (a1_5 : ByteArray) (a1_6 : Int) (a1_7 : ByteArray) (A1_8 : Option Addr) (c1_8 : Nat) (l1_8 : List (S27)) (r : Bool) (w : World) (hr0_8 : Kd.C k27 w A0_8 l0_8.length l0_8) (hc0_8 : l0_8.length ≤ c0_8) (hr1_8 : Kd.C k27 w A1_8 l1_8.length l1_8) (hc1_8 : l1_8.length ≤ c1_8) (h : firkinref17_flat.f a0_0 a0_1 a0_2 a0_3 a0_4 a0_5 a0_6 a0_7 l0_8 a1_0 a1_1 a1_2 a1_3 a1_4 a1_5 a1_6 a1_7 l1_8 = some r) :
  Calls Try.prog 98 #[.agg #[.int .i64 a0_0, .string a0_1, .int .i64 a0_2, .bool a0_3, .int .i64 a0_4, .string a0_5, .int .i64 a0_6, .string a0_7, .slice A0_8 l0_8.length c0_8], .agg #[.int .i64 a1_0, .string a1_1, .int .i64 a1_2, .bool a1_3, .int .i64 a1_4, .string a1_5, .int .i64 a1_6, .string a1_7, .slice A1_8 l1_8.length c1_8]] w fun e w' => e = .returned (.bool r) ∧ Below w.heap.size w w' := by
 have hu27 := Try.underlying27
 have hu24 := Try.underlying24
 have HR0_8 := Aside0.mk hr0_8
 have HC0_8 := Aside0.mk hc0_8
 clear hr0_8 hc0_8
 have HR1_8 := Aside0.mk hr1_8
 have HC1_8 := Aside0.mk hc1_8
 clear hr1_8 hc1_8
 have HB := Aside0.mk (Below.refl w.heap.size w)
 have H : (if a0_0 = a1_0 then (if a0_1.toList = a1_1.toList then (if a0_2 = a1_2 then (if (a0_3 == a1_3 && (a0_4 == a1_4 && (a0_5.toList == a1_5.toList))) = true then (if a0_6 = a1_6 then (some (a0_7.toList == a1_7.toList)) else (some false)) else (some false)) else (some false)) else (some false)) else (some false)) = some r := h
 clear h
 by_cases c3 : a0_0 = a1_0
 ·rw [if_pos c3] at H
  have c3b0 : (a0_0 == a1_0) = true := beq_iff_eq.mpr c3
  have c3b1 : (a0_0 != a1_0) = false := bne_eq_false_iff_eq.mpr c3
  clear c3
  by_cases c4 : a0_1.toList = a1_1.toList
  ·rw [if_pos c4] at H
   have c4b0 : (a0_1.toList == a1_1.toList) = true := beq_iff_eq.mpr c4
   have c4b1 : (a0_1.toList != a1_1.toList) = false := bne_eq_false_iff_eq.mpr c4
   clear c4
   by_cases c5 : a0_2 = a1_2
   ·rw [if_pos c5] at H
    have c5b0 : (a0_2 == a1_2) = true := beq_iff_eq.mpr c5
    have c5b1 : (a0_2 != a1_2) = false := bne_eq_false_iff_eq.mpr c5
    clear c5
    by_cases c6 : (a0_3 == a1_3 && (a0_4 == a1_4 && (a0_5.toList == a1_5.toList))) = true
    ·rw [if_pos c6] at H
     have c6b0 : (a0_3 == a1_3 && (a0_4 == a1_4 && (a0_5.toList == a1_5.toList))) = true := c6
     (try (have c6b1 : decide (a0_3 = a1_3 && (a0_4 == a1_4 && (a0_5.toList == a1_5.toList))) = true := by simpa using c6))
     (try (have c6b2 : (a0_3 == a1_3 && (a0_4 == a1_4 && (a0_5.toList == a1_5.toList))) = true := by simpa using c6))
     clear c6
     by_cases c7 : a0_6 = a1_6
     ·rw [if_pos c7] at H
      have c7b0 : (a0_6 == a1_6) = true := beq_iff_eq.mpr c7
      have c7b1 : (a0_6 != a1_6) = false := bne_eq_false_iff_eq.mpr c7
      clear c7
      obtain rfl := Option.some.inj H
      go_enter Try.func98, Try.ntmps98
      go_wp2_with (first | (refine bx_ (N := 2) (cs := #[.int .i64 a0_0, .string a0_1, .int .i64 a0_2, .bool a0_3, .int .i64 a0_4, .string a0_5, .int .i64 a0_6, .string a0_7, .slice A0_8 l0_8.length c0_8]) (t := 27) ?_; intro gb263 hg w8 hbox hb; have BK263 := Aside0.mk (hbox); have GW263 := ge_ HB hg; have GE263 := ge_ HB hg; replace HB := bs_ HB hb; clear hb hbox hg) | (refine bx_ (N := 3) (cs := #[.int .i64 a1_0, .string a1_1, .int .i64 a1_2, .bool a1_3, .int .i64 a1_4, .string a1_5, .int .i64 a1_6, .string a1_7, .slice A1_8 l1_8.length c1_8]) (t := 27) ?_; intro gb264 hg w9 hbox hb; have BK264 := Aside0.mk (hbox); have GW264 := ge_ HB hg; have GE264 := ge_ HB hg; have NB263_264 := lt_ BK263 hg; have NB264_263 := gt_ BK263 hg; replace BK263 := bk_ BK263 hb; replace HB := bs_ HB hb; clear hb hbox hg; have hnb10 := NB263_264.out; have hnc10 := NB264_263.out; obtain ⟨C11_0, C11_1, C11_2, C11_3, C11_4, C11_5, C11_6, C11_7, C11_8⟩ := zc9_ BK263.out; obtain ⟨F11_0, F11_1, F11_2, F11_3, F11_4, F11_5, F11_6, F11_7, F11_8⟩ := zf9_ BK263.out; obtain ⟨C12_0, C12_1, C12_2, C12_3, C12_4, C12_5, C12_6, C12_7, C12_8⟩ := zc9_ BK264.out; obtain ⟨F12_0, F12_1, F12_2, F12_3, F12_4, F12_5, F12_6, F12_7, F12_8⟩ := zf9_ BK264.out))
      go_ret
      exact en_ HB
     ·rw [if_neg c7] at H
      have c7b0 : (a0_6 == a1_6) = false := beq_eq_false_iff_ne.mpr c7
      have c7b1 : (a0_6 != a1_6) = true := bne_iff_ne.mpr c7
      obtain rfl := Option.some.inj H
      go_enter Try.func98, Try.ntmps98
      go_wp2_with (first | (refine bx_ (N := 2) (cs := #[.int .i64 a0_0, .string a0_1, .int .i64 a0_2, .bool a0_3, .int .i64 a0_4, .string a0_5, .int .i64 a0_6, .string a0_7, .slice A0_8 l0_8.length c0_8]) (t := 27) ?_; intro gb263 hg w13 hbox hb; have BK263 := Aside0.mk (hbox); have GW263 := ge_ HB hg; have GE263 := ge_ HB hg; replace HB := bs_ HB hb; clear hb hbox hg) | (refine bx_ (N := 3) (cs := #[.int .i64 a1_0, .string a1_1, .int .i64 a1_2, .bool a1_3, .int .i64 a1_4, .string a1_5, .int .i64 a1_6, .string a1_7, .slice A1_8 l1_8.length c1_8]) (t := 27) ?_; intro gb264 hg w14 hbox hb; have BK264 := Aside0.mk (hbox); have GW264 := ge_ HB hg; have GE264 := ge_ HB hg; have NB263_264 := lt_ BK263 hg; have NB264_263 := gt_ BK263 hg; replace BK263 := bk_ BK263 hb; replace HB := bs_ HB hb; clear hb hbox hg; have hnb15 := NB263_264.out; have hnc15 := NB264_263.out; obtain ⟨C16_0, C16_1, C16_2, C16_3, C16_4, C16_5, C16_6, C16_7, C16_8⟩ := zc9_ BK263.out; obtain ⟨F16_0, F16_1, F16_2, F16_3, F16_4, F16_5, F16_6, F16_7, F16_8⟩ := zf9_ BK263.out; obtain ⟨C17_0, C17_1, C17_2, C17_3, C17_4, C17_5, C17_6, C17_7, C17_8⟩ := zc9_ BK264.out; obtain ⟨F17_0, F17_1, F17_2, F17_3, F17_4, F17_5, F17_6, F17_7, F17_8⟩ := zf9_ BK264.out))
      go_ret
      exact en_ HB
    ·rw [if_neg c6] at H
     have c6b0 : (a0_3 == a1_3 && (a0_4 == a1_4 && (a0_5.toList == a1_5.toList))) = false := by simpa using c6
     (try (have c6b1 : decide (a0_3 = a1_3 && (a0_4 == a1_4 && (a0_5.toList == a1_5.toList))) = false := by simpa using c6))
     (try (have c6b2 : (a0_3 == a1_3 && (a0_4 == a1_4 && (a0_5.toList == a1_5.toList))) = false := by simpa using c6))
     (try (have c6b3 : ¬ (a0_3 = a1_3 && (a0_4 == a1_4 && (a0_5.toList == a1_5.toList))) := by simpa using c6))
     clear c6
     obtain rfl := Option.some.inj H
     go_enter Try.func98, Try.ntmps98
     go_wp2_with (first | (refine bx_ (N := 2) (cs := #[.int .i64 a0_0, .string a0_1, .int .i64 a0_2, .bool a0_3, .int .i64 a0_4, .string a0_5, .int .i64 a0_6, .string a0_7, .slice A0_8 l0_8.length c0_8]) (t := 27) ?_; intro gb263 hg w18 hbox hb; have BK263 := Aside0.mk (hbox); have GW263 := ge_ HB hg; have GE263 := ge_ HB hg; replace HB := bs_ HB hb; clear hb hbox hg) | (refine bx_ (N := 3) (cs := #[.int .i64 a1_0, .string a1_1, .int .i64 a1_2, .bool a1_3, .int .i64 a1_4, .string a1_5, .int .i64 a1_6, .string a1_7, .slice A1_8 l1_8.length c1_8]) (t := 27) ?_; intro gb264 hg w19 hbox hb; have BK264 := Aside0.mk (hbox); have GW264 := ge_ HB hg; have GE264 := ge_ HB hg; have NB263_264 := lt_ BK263 hg; have NB264_263 := gt_ BK263 hg; replace BK263 := bk_ BK263 hb; replace HB := bs_ HB hb; clear hb hbox hg; have hnb20 := NB263_264.out; have hnc20 := NB264_263.out; obtain ⟨C21_0, C21_1, C21_2, C21_3, C21_4, C21_5, C21_6, C21_7, C21_8⟩ := zc9_ BK263.out; obtain ⟨F21_0, F21_1, F21_2, F21_3, F21_4, F21_5, F21_6, F21_7, F21_8⟩ := zf9_ BK263.out; obtain ⟨C22_0, C22_1, C22_2, C22_3, C22_4, C22_5, C22_6, C22_7, C22_8⟩ := zc9_ BK264.out; obtain ⟨F22_0, F22_1, F22_2, F22_3, F22_4, F22_5, F22_6, F22_7, F22_8⟩ := zf9_ BK264.out))
     go_ret
     exact en_ HB
   ·rw [if_neg c5] at H
    have c5b0 : (a0_2 == a1_2) = false := beq_eq_false_iff_ne.mpr c5
    have c5b1 : (a0_2 != a1_2) = true := bne_iff_ne.mpr c5
    obtain rfl := Option.some.inj H
    go_enter Try.func98, Try.ntmps98
    go_wp2_with (first | (refine bx_ (N := 2) (cs := #[.int .i64 a0_0, .string a0_1, .int .i64 a0_2, .bool a0_3, .int .i64 a0_4, .string a0_5, .int .i64 a0_6, .string a0_7, .slice A0_8 l0_8.length c0_8]) (t := 27) ?_; intro gb263 hg w23 hbox hb; have BK263 := Aside0.mk (hbox); have GW263 := ge_ HB hg; have GE263 := ge_ HB hg; replace HB := bs_ HB hb; clear hb hbox hg) | (refine bx_ (N := 3) (cs := #[.int .i64 a1_0, .string a1_1, .int .i64 a1_2, .bool a1_3, .int .i64 a1_4, .string a1_5, .int .i64 a1_6, .string a1_7, .slice A1_8 l1_8.length c1_8]) (t := 27) ?_; intro gb264 hg w24 hbox hb; have BK264 := Aside0.mk (hbox); have GW264 := ge_ HB hg; have GE264 := ge_ HB hg; have NB263_264 := lt_ BK263 hg; have NB264_263 := gt_ BK263 hg; replace BK263 := bk_ BK263 hb; replace HB := bs_ HB hb; clear hb hbox hg; have hnb25 := NB263_264.out; have hnc25 := NB264_263.out; obtain ⟨C26_0, C26_1, C26_2, C26_3, C26_4, C26_5, C26_6, C26_7, C26_8⟩ := zc9_ BK263.out; obtain ⟨F26_0, F26_1, F26_2, F26_3, F26_4, F26_5, F26_6, F26_7, F26_8⟩ := zf9_ BK263.out; obtain ⟨C27_0, C27_1, C27_2, C27_3, C27_4, C27_5, C27_6, C27_7, C27_8⟩ := zc9_ BK264.out; obtain ⟨F27_0, F27_1, F27_2, F27_3, F27_4, F27_5, F27_6, F27_7, F27_8⟩ := zf9_ BK264.out))
    go_ret
    exact en_ HB
  ·rw [if_neg c4] at H
   have c4b0 : (a0_1.toList == a1_1.toList) = false := beq_eq_false_iff_ne.mpr c4
   have c4b1 : (a0_1.toList != a1_1.toList) = true := bne_iff_ne.mpr c4
   obtain rfl := Option.some.inj H
   go_enter Try.func98, Try.ntmps98
   go_wp2_with (first | (refine bx_ (N := 2) (cs := #[.int .i64 a0_0, .string a0_1, .int .i64 a0_2, .bool a0_3, .int .i64 a0_4, .string a0_5, .int .i64 a0_6, .string a0_7, .slice A0_8 l0_8.length c0_8]) (t := 27) ?_; intro gb263 hg w28 hbox hb; have BK263 := Aside0.mk (hbox); have GW263 := ge_ HB hg; have GE263 := ge_ HB hg; replace HB := bs_ HB hb; clear hb hbox hg) | (refine bx_ (N := 3) (cs := #[.int .i64 a1_0, .string a1_1, .int .i64 a1_2, .bool a1_3, .int .i64 a1_4, .string a1_5, .int .i64 a1_6, .string a1_7, .slice A1_8 l1_8.length c1_8]) (t := 27) ?_; intro gb264 hg w29 hbox hb; have BK264 := Aside0.mk (hbox); have GW264 := ge_ HB hg; have GE264 := ge_ HB hg; have NB263_264 := lt_ BK263 hg; have NB264_263 := gt_ BK263 hg; replace BK263 := bk_ BK263 hb; replace HB := bs_ HB hb; clear hb hbox hg; have hnb30 := NB263_264.out; have hnc30 := NB264_263.out; obtain ⟨C31_0, C31_1, C31_2, C31_3, C31_4, C31_5, C31_6, C31_7, C31_8⟩ := zc9_ BK263.out; obtain ⟨F31_0, F31_1, F31_2, F31_3, F31_4, F31_5, F31_6, F31_7, F31_8⟩ := zf9_ BK263.out; obtain ⟨C32_0, C32_1, C32_2, C32_3, C32_4, C32_5, C32_6, C32_7, C32_8⟩ := zc9_ BK264.out; obtain ⟨F32_0, F32_1, F32_2, F32_3, F32_4, F32_5, F32_6, F32_7, F32_8⟩ := zf9_ BK264.out))
   go_ret
   exact en_ HB
 ·rw [if_neg c3] at H
  have c3b0 : (a0_0 == a1_0) = false := beq_eq_false_iff_ne.mpr c3
  have c3b1 : (a0_0 != a1_0) = true := bne_iff_ne.mpr c3
  obtain rfl := Option.some.inj H
  go_enter Try.func98, Try.ntmps98
  go_wp2_with (first | (refine bx_ (N := 2) (cs := #[.int .i64 a0_0, .string a0_1, .int .i64 a0_2, .bool a0_3, .int .i64 a0_4, .string a0_5, .int .i64 a0_6, .string a0_7, .slice A0_8 l0_8.length c0_8]) (t := 27) ?_; intro gb263 hg w33 hbox hb; have BK263 := Aside0.mk (hbox); have GW263 := ge_ HB hg; have GE263 := ge_ HB hg; replace HB := bs_ HB hb; clear hb hbox hg) | (refine bx_ (N := 3) (cs := #[.int .i64 a1_0, .string a1_1, .int .i64 a1_2, .bool a1_3, .int .i64 a1_4, .string a1_5, .int .i64 a1_6, .string a1_7, .slice A1_8 l1_8.length c1_8]) (t := 27) ?_; intro gb264 hg w34 hbox hb; have BK264 := Aside0.mk (hbox); have GW264 := ge_ HB hg; have GE264 := ge_ HB hg; have NB263_264 := lt_ BK263 hg; have NB264_263 := gt_ BK263 hg; replace BK263 := bk_ BK263 hb; replace HB := bs_ HB hb; clear hb hbox hg; have hnb35 := NB263_264.out; have hnc35 := NB264_263.out; obtain ⟨C36_0, C36_1, C36_2, C36_3, C36_4, C36_5, C36_6, C36_7, C36_8⟩ := zc9_ BK263.out; obtain ⟨F36_0, F36_1, F36_2, F36_3, F36_4, F36_5, F36_6, F36_7, F36_8⟩ := zf9_ BK263.out; obtain ⟨C37_0, C37_1, C37_2, C37_3, C37_4, C37_5, C37_6, C37_7, C37_8⟩ := zc9_ BK264.out; obtain ⟨F37_0, F37_1, F37_2, F37_3, F37_4, F37_5, F37_6, F37_7, F37_8⟩ := zf9_ BK264.out))
  go_ret
  exact en_ HB
end Go.Proofs.Ytdedmhmomoejkaa.X
namespace Go.Proofs.Ytdedmhmomoejkaa.X
open Go.RowKit Go.Proofs.YtdedmhmomoejkaaW.PrintWords Go.Proofs.YtdedmhmomoejkaaW.PrintLast
set_option linter.unusedVariables false
set_option linter.unusedSimpArgs false
def flB (x : S27) : Bool :=
  (if x.f0 = 2 then firkinref17_flat.f x.f0 x.f1 x.f2 x.f3.f0 x.f3.f1 x.f3.f2 x.f4 x.f5 [] x.f0 x.f1 x.f2 x.f3.f0 x.f3.f1 x.f3.f2 x.f4 ⟨#[]⟩ [] else
   if x.f0 = 3 then firkinref17_flat.f x.f0 x.f1 x.f2 x.f3.f0 x.f3.f1 x.f3.f2 x.f4 x.f5 [] x.f0 x.f1 0 false 0 ⟨#[]⟩ 0 ⟨#[]⟩ [] else
   if x.f0 = 4 then firkinref17_flat.f x.f0 x.f1 x.f2 x.f3.f0 x.f3.f1 x.f3.f2 x.f4 x.f5 [] x.f0 x.f1 0 false 0 ⟨#[]⟩ 0 x.f5 [] else
   firkinref17_flat.f x.f0 x.f1 x.f2 x.f3.f0 x.f3.f1 x.f3.f2 x.f4 x.f5 [] x.f0 ⟨#[]⟩ 0 false 0 ⟨#[]⟩ 0 ⟨#[]⟩ []).getD false
def opB (x : S27) : Bool :=
  if x.f0 = 1 then true else if x.f0 = 2 then nameB x.f1 && (decide (1 ≤ x.f2) && (decide (x.f2 ≤ 6) && (cell_May.f x.f4 false x.f3.f0 x.f3.f1 x.f3.f2).getD false)) else
  if x.f0 = 3 then nameB x.f1 else if x.f0 = 4 then nameB x.f1 && decide (x.f5.size ≤ 40) else decide (5 ≤ x.f0) && decide (x.f0 ≤ 7)
theorem flat_ans (a0 : Int) (a1 : ByteArray) (a2 : Int) (a3 : Bool) (a4 : Int) (a5 : ByteArray) (a6 : Int) (a7 : ByteArray) (a8 : List S27) (b0 : Int) (b1 : ByteArray) (b2 : Int) (b3 : Bool) (b4 : Int) (b5 : ByteArray) (b6 : Int) (b7 : ByteArray) (b8 : List S27) :
    Ans (firkinref17_flat.f a0 a1 a2 a3 a4 a5 a6 a7 a8 b0 b1 b2 b3 b4 b5 b6 b7 b8) := by
  unfold firkinref17_flat.f
  repeat' (first | exact Ans.some_ _ | refine Ans.ite ?_ ?_)
theorem flat_same (a0 : Int) (a1 : ByteArray) (a2 : Int) (a3 : Bool) (a4 : Int) (a5 : ByteArray) (a6 : Int) (a7 : ByteArray) (a8 a8' : List S27) (b0 : Int) (b1 : ByteArray) (b2 : Int) (b3 : Bool) (b4 : Int) (b5 : ByteArray) (b6 : Int) (b7 : ByteArray) (b8 b8' : List S27) :
    pred_flat.f a0 a1 a2 a3 a4 a5 a6 a7 a8 b0 b1 b2 b3 b4 b5 b6 b7 b8 = firkinref17_flat.f a0 a1 a2 a3 a4 a5 a6 a7 a8' b0 b1 b2 b3 b4 b5 b6 b7 b8' := rfl
theorem fieldsB_eq (x : S27) : fieldsB x = (flB x && opB x) := by
  have hs := fields_some x
  have hm := cellMay_ans x.f4 false x.f3.f0 x.f3.f1 x.f3.f2
  obtain ⟨cm, hcm⟩ := hm
  unfold pred_fields.f pred_bare.f at hs
  unfold flB opB
  rw [hcm]
  by_cases h2 : x.f0 = 2
  · have h1 : ¬ x.f0 = 1 := by omega
    rw [if_pos h2] at hs ⊢
    simp only [Option.bind_some] at hs
    rw [flat_same _ _ _ _ _ _ _ _ _ [] _ _ _ _ _ _ _ _ _ []] at hs
    obtain ⟨f, hf⟩ := flat_ans x.f0 x.f1 x.f2 x.f3.f0 x.f3.f1 x.f3.f2 x.f4 x.f5 [] x.f0 x.f1 x.f2 x.f3.f0 x.f3.f1 x.f3.f2 x.f4 ⟨#[]⟩ []
    rw [hf] at hs ⊢
    rw [if_neg h1, if_pos h2]
    simp only [Option.bind_some, schema_Name.f, hcm, if_neg h1, if_pos h2] at hs
    generalize nameB x.f1 = nb at hs ⊢
    generalize fieldsB x = fb at hs ⊢
    clear hf hcm h1 h2
    by_cases g1 : 1 ≤ x.f2
    · have g1' : x.f2 ≥ 1 := g1
      by_cases g2 : x.f2 ≤ 6
      · simp only [if_pos g1', if_pos g2] at hs
        rw [decide_eq_true g1, decide_eq_true g2]
        clear g1 g2 g1'
        cases f <;> cases nb <;> simp_all
      · simp only [if_pos g1', if_neg g2] at hs
        rw [decide_eq_true g1, decide_eq_false g2]
        clear g1 g2 g1'
        cases f <;> cases nb <;> simp_all
    · have g1' : ¬ x.f2 ≥ 1 := g1
      simp only [if_neg g1'] at hs
      rw [decide_eq_false g1]
      clear g1 g1'
      cases f <;> cases nb <;> simp_all
  by_cases h3 : x.f0 = 3
  · have h1 : ¬ x.f0 = 1 := by omega
    rw [if_neg h2, if_pos h3] at hs ⊢
    simp only [Option.bind_some] at hs
    rw [flat_same _ _ _ _ _ _ _ _ _ [] _ _ _ _ _ _ _ _ _ []] at hs
    obtain ⟨f, hf⟩ := flat_ans x.f0 x.f1 x.f2 x.f3.f0 x.f3.f1 x.f3.f2 x.f4 x.f5 [] x.f0 x.f1 0 false 0 ⟨#[]⟩ 0 ⟨#[]⟩ []
    rw [hf] at hs ⊢
    rw [if_neg h1, if_neg h2, if_pos h3]
    simp only [Option.bind_some, schema_Name.f, hcm, if_neg h1, if_neg h2, if_pos h3] at hs
    generalize nameB x.f1 = nb at hs ⊢
    generalize fieldsB x = fb at hs ⊢
    clear hf hcm h1 h2 h3
    cases f <;> cases nb <;> simp_all
  by_cases h4 : x.f0 = 4
  · have h1 : ¬ x.f0 = 1 := by omega
    rw [if_neg h2, if_neg h3, if_pos h4] at hs ⊢
    simp only [Option.bind_some] at hs
    rw [flat_same _ _ _ _ _ _ _ _ _ [] _ _ _ _ _ _ _ _ _ []] at hs
    obtain ⟨f, hf⟩ := flat_ans x.f0 x.f1 x.f2 x.f3.f0 x.f3.f1 x.f3.f2 x.f4 x.f5 [] x.f0 x.f1 0 false 0 ⟨#[]⟩ 0 x.f5 []
    rw [hf] at hs ⊢
    rw [if_neg h1, if_neg h2, if_neg h3, if_pos h4]
    simp only [Option.bind_some, schema_Name.f, hcm, if_neg h1, if_neg h2, if_neg h3, if_pos h4] at hs
    have e : decide ((x.f5.size : Int) ≤ 40) = decide (x.f5.size ≤ 40) := by
      by_cases g : x.f5.size ≤ 40
      · rw [decide_eq_true g, decide_eq_true (by omega)]
      · rw [decide_eq_false g, decide_eq_false (by omega)]
    rw [e] at hs
    generalize nameB x.f1 = nb at hs ⊢
    generalize fieldsB x = fb at hs ⊢
    clear hf hcm h1 h2 h3 h4 e
    cases f <;> cases nb <;> simp_all
  rw [if_neg h2, if_neg h3, if_neg h4] at hs ⊢
  simp only [Option.bind_some] at hs
  rw [flat_same _ _ _ _ _ _ _ _ _ [] _ _ _ _ _ _ _ _ _ []] at hs
  obtain ⟨f, hf⟩ := flat_ans x.f0 x.f1 x.f2 x.f3.f0 x.f3.f1 x.f3.f2 x.f4 x.f5 [] x.f0 ⟨#[]⟩ 0 false 0 ⟨#[]⟩ 0 ⟨#[]⟩ []
  rw [hf] at hs ⊢
  simp only [Option.bind_some, if_neg h2, if_neg h3, if_neg h4] at hs ⊢
  generalize fieldsB x = fb at hs ⊢
  clear hf hcm
  by_cases h1 : x.f0 = 1
  · cases f <;> simp_all
  · rw [if_neg h1] at hs ⊢
    by_cases g1 : 5 ≤ x.f0
    · have g1' : x.f0 ≥ 5 := g1
      simp only [if_pos g1'] at hs
      rw [decide_eq_true g1]
      clear g1 g1' h1 h2 h3 h4
      cases f <;> simp_all
    · have g1' : ¬ x.f0 ≥ 5 := g1
      simp only [if_neg g1'] at hs
      rw [decide_eq_false g1]
      clear g1 g1' h1 h2 h3 h4
      cases f <;> simp_all
end Go.Proofs.Ytdedmhmomoejkaa.X
namespace Go.Proofs.Ytdedmhmomoejkaa.X
open Go.RowKit Go.Proofs.YtdedmhmomoejkaaW.PrintWords Go.Proofs.YtdedmhmomoejkaaW.PrintLast
set_option linter.unusedVariables false
set_option linter.unusedSimpArgs false
theorem rd64_get (l : List S64) (i : Nat) (h : i < l.length) : rd_T64 l (i : Int) = l[i] := by
  simp [rd_T64, List.getD_eq_getElem?_getD, List.getElem?_eq_getElem h]
end Go.Proofs.Ytdedmhmomoejkaa.X
namespace Go.Proofs.Ytdedmhmomoejkaa.X
open Go.RowKit Go.Proofs.YtdedmhmomoejkaaW.PrintWords Go.Proofs.YtdedmhmomoejkaaW.PrintLast
set_option linter.unusedVariables false
set_option linter.unusedSimpArgs false
theorem small12 (l : List S64) (hl : l.length ≤ 9223372036854775807) : TotP (fun r => r = true → l.length ≤ 20 ∧ ∀ y, y ∈ l → y.f0.size ≤ 100) (fun k => firkinlaw12_Small.f k l) := by
  unfold firkinlaw12_Small.f
  have key : ∀ (n i : Nat), i + n = l.length → (∀ y, y ∈ l.take i → y.f0.size ≤ 100) → TotP (fun r => r = true → l.length ≤ 20 ∧ ∀ y, y ∈ l → y.f0.size ≤ 100) (fun k => firkinlaw12_Small.l0 k l (i : Int)) := by
    intro n
    induction n with
    | zero =>
      intro i hi hall
      refine TotP.succ (fun k => by simp only [firkinlaw12_Small.l0]; rfl) ?_
      refine TotP.ite (fun h => absurd h (by omega)) (fun _ => ?_)
      refine TotP.succ (fun k => by simp only [firkinlaw12_Small.j1]; rfl) ?_
      refine TotP.ite (fun h => absurd h (by decide)) (fun _ => TotP.some_ (fun h => ⟨by have := of_decide_eq_true h; omega, fun y hy => hall y (by rw [List.take_of_length_le (by omega)]; exact hy)⟩))
    | succ n ih =>
      intro i hi hall
      have hlt : i < l.length := by omega
      refine TotP.succ (fun k => by simp only [firkinlaw12_Small.l0]; rfl) ?_
      refine TotP.ite (fun _ => ?_) (fun h => absurd (by omega) h)
      refine TotP.succ (fun k => by simp only [firkinlaw12_Small.j1]; rfl) ?_
      refine TotP.ite (fun _ => ?_) (fun h0 => TotP.some_ (fun h => by have h1 := of_decide_eq_true h; exact absurd (decide_eq_true (show (i : Int) < 30 by omega)) h0))
      refine TotP.ite (fun _ => ?_) (fun h => absurd (by omega) h)
      refine TotP.ite (fun _ => ?_) (fun h => absurd (by omega) h)
      rw [rd64_get l i hlt]
      refine TotP.ite (fun _ => TotP.some_ (by simp)) (fun g => ?_)
      rw [wrap_in (by omega) (by omega), show (i : Int) + 1 = ((i + 1 : Nat) : Int) by omega]
      refine ih (i + 1) (by omega) (fun y hy => ?_)
      rw [List.take_succ_eq_append_getElem hlt] at hy
      rcases List.mem_append.1 hy with hy | hy
      · exact hall y hy
      · rw [List.mem_singleton.1 hy]; omega
  simpa using key l.length 0 (by omega) (by simp)
end Go.Proofs.Ytdedmhmomoejkaa.X
namespace Go.Proofs.Ytdedmhmomoejkaa.X
open Go.RowKit Go.Proofs.YtdedmhmomoejkaaW.PrintWords Go.Proofs.YtdedmhmomoejkaaW.PrintLast
set_option linter.unusedVariables false
set_option linter.unusedSimpArgs false
theorem val_in (x : S27) (hf : fieldsB x = true) (h2 : x.f0 = 2) : (1 ≤ x.f2 ∧ x.f2 ≤ 6) ∧ x.f3.f0 = false := by
  rw [fieldsB_eq, Bool.and_eq_true] at hf
  have h := hf.2
  unfold opB at h
  rw [if_neg (by omega), if_pos h2] at h
  simp only [Bool.and_eq_true, decide_eq_true_eq] at h
  refine ⟨⟨h.2.1, h.2.2.1⟩, ?_⟩
  have hm := h.2.2.2
  cases hb : x.f3.f0 with
  | false => rfl
  | true =>
    rw [hb] at hm
    simp [cell_May.f] at hm
theorem rd27_get (l : List S27) (i : Nat) (h : i < l.length) : rd_T27 l (i : Int) = l[i] := by
  simp only [rd_T27, Int.toNat_natCast, List.getD_eq_getElem?_getD, List.getElem?_eq_getElem h, Option.getD_some]
end Go.Proofs.Ytdedmhmomoejkaa.X
namespace Go.Proofs.Ytdedmhmomoejkaa.X
open Go.RowKit Go.Proofs.YtdedmhmomoejkaaW.PrintWords Go.Proofs.YtdedmhmomoejkaaW.PrintLast Go.Proofs.YtdedmhmomoejkaaW.PrintMore
attribute [local go_sem] max2_int max_two
set_option linter.unusedVariables false
set_option linter.unusedSimpArgs false
def schema_Row.l0 : Nat → List (S24) → List (S64) → Int → Int → Option (Bool)
 | 0, _, _, _, _ => none
 | k + 1, x1, x12, x13, x14 => if x14 < x13 then (if 0 ≤ x14 then (if x14 < (x12.length : Int) then (if x14 < (x1.length : Int) then ((cell_May.f ((rd_T64 x12 x14).f1) ((rd_T64 x12 x14).f2) ((rd_T24 x1 x14).f0) ((rd_T24 x1 x14).f1) ((rd_T24 x1 x14).f2)).bind fun t424 => (if t424 = true then (schema_Row.l0 k x1 x12 x13 (wrap64 (x14 + 1))) else (some false))) else (none)) else (none)) else (none)) else (some true)
def schema_Row.f (k : Nat) (l0 : List (S64)) (l1 : List (S24)) : Option (Bool) := if (l0.length : Int) = (l1.length : Int) then (schema_Row.l0 k l1 l0 (l0.length : Int) 0) else (some false)
theorem schema_Row.mono_l : ∀ k, (∀ y0 y1 y2 y3, LeO (schema_Row.l0 k y0 y1 y2 y3) (schema_Row.l0 (k + 1) y0 y1 y2 y3))
 | 0 => fun _ _ _ _ r h => by simp [schema_Row.l0] at h
 | k + 1 => by
  have ih0 := schema_Row.mono_l k
  ·intro y0 y1 y2 y3
   unfold schema_Row.l0
   repeat' first
   | (with_reducible exact ih0 _ _ _ _)
   | (with_reducible exact LeO.refl _)
   | (with_reducible exact LeO.none _)
   | (with_reducible refine LeO.ite ?_ ?_)
   | (with_reducible refine LeO.bind ?_ (fun _ => ?_))
   | exact ih0 _ _ _ _
   | exact LeO.none _
   | refine LeO.ite ?_ ?_
   | refine LeO.bind ?_ (fun _ => ?_)
theorem schema_Row.mono : ∀ a0 a1 k, LeO (schema_Row.f k a0 a1) (schema_Row.f (k + 1) a0 a1) := by
 intro a0 a1 k
 have ih0 := schema_Row.mono_l k
 unfold schema_Row.f
 repeat' first
   | (with_reducible exact ih0 _ _ _ _)
   | (with_reducible exact LeO.refl _)
   | (with_reducible exact LeO.none _)
   | (with_reducible refine LeO.ite ?_ ?_)
   | (with_reducible refine LeO.bind ?_ (fun _ => ?_))
   | exact ih0 _ _ _ _
   | exact LeO.none _
   | refine LeO.ite ?_ ?_
   | refine LeO.bind ?_ (fun _ => ?_)
def schema_Row.T6 : Bool × List (List Nat × List Nat) := (true, [([], []), ([0], [0]), ([], []), ([2], [2]), ([], []), ([], []), ([4, 5], [4, 5]), ([6], [6]), ([1, 3, 7], [1, 3, 7]), ([8], [8])])
def schema_Row.B6 : List Nat := [0, 1, 0, 4, 0, 0, 48, 112, 255, 511]
theorem schema_Row.tab6 : rtab .any (opsOf Try.f40 6) = schema_Row.T6 := by kernel_rfl
theorem schema_Row.bits6 : waitsOk schema_Row.T6.2 schema_Row.B6 = true := by kernel_rfl
set_option maxHeartbeats 8000000 in
set_option maxRecDepth 100000 in
theorem schema_Row.calls (k : Nat) (A0 : Option Addr) (c0 : Nat) (l0 : List (S64)) (A1 : Option Addr) (c1 : Nat) (l1 : List (S24)) (r : Bool) (w : World) (hr0 : Kd.C k64 w A0 l0.length l0) (hc0 : l0.length ≤ c0) (hr1 : Kd.C k24 w A1 l1.length l1) (hc1 : l1.length ≤ c1) (h : schema_Row.f k l0 l1 = some r) :
  Calls Try.prog 40 #[.slice A0 l0.length c0, .slice A1 l1.length c1] w fun e w' => e = .returned (.bool r) ∧ Below w.heap.size w w' := by
 have hu64 := Try.underlying64
 have hu24 := Try.underlying24
 have HR0 := Aside0.mk hr0
 have HC0 := Aside0.mk hc0
 clear hr0 hc0
 have HR1 := Aside0.mk hr1
 have HC1 := Aside0.mk hc1
 clear hr1 hc1
 have HB := Aside0.mk (Below.refl w.heap.size w)
 have H : (if (l0.length : Int) = (l1.length : Int) then (schema_Row.l0 k l1 l0 (l0.length : Int) 0) else (some false)) = some r := h
 clear h
 by_cases c3 : (l0.length : Int) = (l1.length : Int)
 ·rw [if_pos c3] at H
  have c3b0 : ((l0.length : Int) == (l1.length : Int)) = true := beq_iff_eq.mpr c3
  have c3b1 : ((l0.length : Int) != (l1.length : Int)) = false := bne_eq_false_iff_eq.mpr c3
  have c3b2 : (l0.length == l1.length) = true := by first | simpa using c3 | (simp at c3 ⊢; omega)
  clear c3
  have H' := Aside0.mk H
  clear H
  go_enter Try.func40, Try.ntmps40
  go_wp2
  go_loopg [14] k (fun kq v14 w' => ∃ (x14_1 : Int), v14 = .int .i64 x14_1 ∧ Aside0 (schema_Row.l0 kq l1 l0 (l0.length : Int) x14_1 = some r) ∧ Aside0 (kq ≤ k) ∧ Aside0 (Below w.heap.size w w'))
  case atStart => exact ⟨(0), (by first | rfl | (simp; done) | (simp [*]; done)), H', ⟨Nat.le_refl _⟩, ⟨by repeat (first | (with_reducible first | exact HB.out | apply below_alloc | apply pw_below_drewN | apply below_drew1) | exact HB.out)⟩⟩
  case round =>
   clear H'
   try clear c1
   try clear p2
   try clear c3
   try clear c3b0
   try clear c3b1
   try clear c3b2
   obtain ⟨x14_1, rfl, HA, HK1, HB⟩ := hrel
   cases gk with
   | zero => exact absurd HA.out (by simp [schema_Row.l0])
   | succ k1 =>
    have H := HA.out
    clear HA
    simp only [schema_Row.l0] at H
    by_cases c4 : x14_1 < (l0.length : Int)
    ·rw [if_pos c4] at H
     have c4b0 : decide (x14_1 < (l0.length : Int)) = true := decide_eq_true c4
     clear c4
     by_cases c5 : 0 ≤ x14_1
     ·rw [if_pos c5] at H
      have c5b0 : decide (0 ≤ x14_1) = true := decide_eq_true c5
      clear c5
      by_cases c6 : x14_1 < (l0.length : Int)
      ·rw [if_pos c6] at H
       have c6b0 : decide (x14_1 < (l0.length : Int)) = true := decide_eq_true c6
       clear c6
       by_cases c7 : x14_1 < (l1.length : Int)
       ·rw [if_pos c7] at H
        have c7b0 : decide (x14_1 < (l1.length : Int)) = true := decide_eq_true c7
        clear c7
        replace H := Option.bind_eq_some_iff.mp H
        obtain ⟨t424, A80, H⟩ := H
        replace H : (if t424 = true then (schema_Row.l0 k1 l1 l0 (l0.length : Int) (wrap64 (x14_1 + 1))) else (some false)) = some r := H
        have A8 := Aside0.mk A80
        clear A80
        by_cases c9 : t424 = true
        ·subst c9
         have H1 : (schema_Row.l0 k1 l1 l0 (l0.length : Int) (wrap64 (x14_1 + 1))) = some r := by rw [if_pos rfl] at H; exact H
         clear H
         have H := H1
         clear H1
         have H' := Aside0.mk H
         clear H
         have p421 : 0 ≤ (x14_1 : Int) := dt_
         have q421 : x14_1 < (l0.length : Int) := dt_
         obtain ⟨ad421, e421, hx421_0, hx421_1, hx421_2⟩ := at_T64 HR0.out x14_1 p421 q421
         cases e421
         replace hx421_0 := hc_ HB hx421_0
         replace hx421_1 := hc_ HB hx421_1
         replace hx421_2 := hc_ HB hx421_2
         replace p421 := eq_true p421
         replace q421 := eq_true q421
         try go_wp2_with (first | (refine bx_ (N := 6) (cs := #[.string (⟨#[]⟩ : ByteArray), .int .i64 0, .bool false]) (t := 64) ?_; intro gb422 hg w10 hbox hb; have BK422 := Aside0.mk (hbox); have GW422 := ge_ HB hg; have GE422 := ge_ HB hg; replace HB := bs_ HB hb; clear hb hbox hg; obtain ⟨C11_0, C11_1, C11_2⟩ := zc3_ BK422.out; obtain ⟨F11_0, F11_1, F11_2⟩ := zf3_ BK422.out))
         obtain ⟨w12, hcw12⟩ : ∃ w_, w_ = (((w10.setCell ⟨gb422, 0, none⟩ (.string ((rd_T64 l0 x14_1).f0))).setCell ⟨gb422, 1, none⟩ (.int .i64 ((rd_T64 l0 x14_1).f1))).setCell ⟨gb422, 2, none⟩ (.bool ((rd_T64 l0 x14_1).f2))) := ⟨_, rfl⟩
         rw [← hcw12]
         have n0_ : Aside0 (w12.heap[gb422]? = some (.cells #[.string ((rd_T64 l0 x14_1).f0), .int .i64 ((rd_T64 l0 x14_1).f1), .bool ((rd_T64 l0 x14_1).f2)] 64 (0, 0))) := ⟨by rw [hcw12]; (with_reducible repeat (first | refine blk_drewN ?_ _ | refine blk_drew ?_ | refine blk_alloc ?_ _)); apply blk_all3_; (with_reducible repeat (first | refine blk_drewN ?_ _ | refine blk_drew ?_ | refine blk_alloc ?_ _)); exact BK422.out⟩
         have n1_ : Aside0 (Below w.heap.size w w12) := ⟨by rw [hcw12]; repeat (first | (with_reducible first | exact HB.out | apply below_alloc | apply pw_below_drewN | apply below_drew1 | refine below_set ?_ GE422.out) | exact HB.out)⟩
         (try clear BK422)
         (try clear HB)
         clear hcw12
         have BK422 := n0_
         have HB := n1_
         clear n0_ n1_
         replace BK422 := Aside0.mk (blk_drew BK422.out); replace HB := Aside0.mk (below_drew1 HB.out)
         have p423 : 0 ≤ (x14_1 : Int) := dt_
         have q423 : x14_1 < (l1.length : Int) := dt_
         obtain ⟨ad423, e423, hx423_0, hx423_1, hx423_2⟩ := at_T24 HR1.out x14_1 p423 q423
         have hw423_2 := hx423_2
         have hw423_1 := hx423_1
         have hw423_0 := hx423_0
         cases e423
         replace hx423_0 := hc_ HB hx423_0
         replace hx423_1 := hc_ HB hx423_1
         replace hx423_2 := hc_ HB hx423_2
         replace p423 := eq_true p423
         replace q423 := eq_true q423
         refine start_ (n := 10) (S := fun w' => w'.cell? ⟨gb422, 0, none⟩ = some (.string ((rd_T64 l0 x14_1).f0)) ∧ w'.cell? ⟨gb422, 1, none⟩ = some (.int .i64 ((rd_T64 l0 x14_1).f1)) ∧ w'.cell? ⟨gb422, 2, none⟩ = some (.bool ((rd_T64 l0 x14_1).f2)) ∧ w'.cell? (ad423.add ((x14_1).toNat * 3)) = some (.bool ((rd_T24 l1 x14_1).f0)) ∧ w'.cell? ⟨(ad423.add ((x14_1).toNat * 3)).block, (ad423.add ((x14_1).toNat * 3)).off + 1, none⟩ = some (.int .i64 ((rd_T24 l1 x14_1).f1)) ∧ w'.cell? ⟨(ad423.add ((x14_1).toNat * 3)).block, (ad423.add ((x14_1).toNat * 3)).off + 2, none⟩ = some (.string ((rd_T24 l1 x14_1).f2))) (ds := []) #[false, false, false, false, false, false, false, false, false, false] (by kernel_rfl) rfl rfl ⟨(blk_cell BK422.out 0).trans rfl, (blk_cell BK422.out 1).trans rfl, (blk_cell BK422.out 2).trans rfl, ((HB.out.cell (World.block_lt_of_cell? w _ hw423_0)).trans hw423_0), ((HB.out.cell (World.block_lt_of_cell? w _ hw423_1)).trans hw423_1), ((HB.out.cell (World.block_lt_of_cell? w _ hw423_2)).trans hw423_2)⟩ (fun hHeld => ?_); refine with_tabW schema_Row.tab6 schema_Row.bits6 (fun HT_ HW_ => ?_)
         generalize w12.drew = w13 at BK422 HB hx423_0 hx423_1 hx423_2 hHeld ⊢
         refine pu_ 0 (some 19) (bl_ 10 1) ?_
         refine pu_ 2 (some 21) (bl_ 10 5) ?_
         refine pu_ 4 (some 23) (bl_ 10 21) ?_
         refine pu_ 5 (some 24) (bl_ 10 53) ?_
         refine pu_ 6 (some 25) (bl_ 10 117) ?_
         refine ta_ 1 (some 20) (bl_ 10 119) hHeld ?_
         refine ta_ 3 (some 22) (bl_ 10 127) hHeld ?_
         refine ta_ 7 (some 26) (bl_ 10 255) hHeld ?_
         refine one_ (i := 8) (N := some 27) #[true, true, true, true, true, true, true, true, true, false] rfl rfl (one_of HT_.out (by kernel_rfl)) (by decide) (fun K hK => ?_)
         refine gs_ Try.func49 #[.int .i64 ((rd_T64 l0 x14_1).f1), .bool ((rd_T64 l0 x14_1).f2), .agg #[.bool ((rd_T24 l1 x14_1).f0), .int .i64 ((rd_T24 l1 x14_1).f1), .string ((rd_T24 l1 x14_1).f2)]] ?_
         with_reducible refine (cell_May.calls ((rd_T64 l0 x14_1).f1) ((rd_T64 l0 x14_1).f2) ((rd_T24 l1 x14_1).f0) ((rd_T24 l1 x14_1).f1) ((rd_T24 l1 x14_1).f2) true _ A8.out).mono ?_
         rintro e w14 ⟨rfl, hb⟩
         refine ⟨_, rfl, ?_⟩
         replace BK422 := bk_ BK422 hb; replace HB := bs_ HB hb
         (try clear hb)
         (try clear hb2)
         (try clear hk)
         (try clear hi)
         refine hK.out _ _ ⟨(blk_cell BK422.out 0).trans rfl, (blk_cell BK422.out 1).trans rfl, (blk_cell BK422.out 2).trans rfl, ((HB.out.cell (World.block_lt_of_cell? w _ hw423_0)).trans hw423_0), ((HB.out.cell (World.block_lt_of_cell? w _ hw423_1)).trans hw423_1), ((HB.out.cell (World.block_lt_of_cell? w _ hw423_2)).trans hw423_2)⟩ (fun hHeld => ?_)
         clear hK K
         refine norm_ (a' := ?_) ?_ ?_
         rotate_left
         ·show Act.put _ (some 27) _ = _
          simp only [Act.put, List.setIfInBounds_toArray, List.set_cons_zero, List.set_cons_succ, i64_w, i32_w]
          rfl
         refine pu_ 9 (some 28) (bl_ 10 1023) ?_
         refine done_ (done_of HT_.out (by kernel_rfl)) ?_
         try go_wp2
         go_roundg k1
         case measure => have := HK1.out; omega
         case rel => exact ⟨(wrap64 (x14_1 + 1)), (by first | rfl | (simp; done) | (simp [*]; done)), H', ⟨by have := HK1.out; omega⟩, ⟨by repeat (first | (with_reducible first | exact HB.out | apply below_alloc | apply pw_below_drewN | apply below_drew1 | refine below_set ?_ GE422.out) | exact HB.out)⟩⟩
        ·replace c9 := Bool.eq_false_iff.mpr c9
         subst c9
         have H1 : (some false) = some r := by rw [if_neg (show ¬ (false = true) by decide)] at H; exact H
         clear H
         have H := H1
         clear H1
         obtain rfl := Option.some.inj H
         have p421 : 0 ≤ (x14_1 : Int) := dt_
         have q421 : x14_1 < (l0.length : Int) := dt_
         obtain ⟨ad421, e421, hx421_0, hx421_1, hx421_2⟩ := at_T64 HR0.out x14_1 p421 q421
         cases e421
         replace hx421_0 := hc_ HB hx421_0
         replace hx421_1 := hc_ HB hx421_1
         replace hx421_2 := hc_ HB hx421_2
         replace p421 := eq_true p421
         replace q421 := eq_true q421
         try go_wp2_with (first | (refine bx_ (N := 6) (cs := #[.string (⟨#[]⟩ : ByteArray), .int .i64 0, .bool false]) (t := 64) ?_; intro gb422 hg w15 hbox hb; have BK422 := Aside0.mk (hbox); have GW422 := ge_ HB hg; have GE422 := ge_ HB hg; replace HB := bs_ HB hb; clear hb hbox hg; obtain ⟨C16_0, C16_1, C16_2⟩ := zc3_ BK422.out; obtain ⟨F16_0, F16_1, F16_2⟩ := zf3_ BK422.out))
         obtain ⟨w17, hcw17⟩ : ∃ w_, w_ = (((w15.setCell ⟨gb422, 0, none⟩ (.string ((rd_T64 l0 x14_1).f0))).setCell ⟨gb422, 1, none⟩ (.int .i64 ((rd_T64 l0 x14_1).f1))).setCell ⟨gb422, 2, none⟩ (.bool ((rd_T64 l0 x14_1).f2))) := ⟨_, rfl⟩
         rw [← hcw17]
         have n0_ : Aside0 (w17.heap[gb422]? = some (.cells #[.string ((rd_T64 l0 x14_1).f0), .int .i64 ((rd_T64 l0 x14_1).f1), .bool ((rd_T64 l0 x14_1).f2)] 64 (0, 0))) := ⟨by rw [hcw17]; (with_reducible repeat (first | refine blk_drewN ?_ _ | refine blk_drew ?_ | refine blk_alloc ?_ _)); apply blk_all3_; (with_reducible repeat (first | refine blk_drewN ?_ _ | refine blk_drew ?_ | refine blk_alloc ?_ _)); exact BK422.out⟩
         have n1_ : Aside0 (Below w.heap.size w w17) := ⟨by rw [hcw17]; repeat (first | (with_reducible first | exact HB.out | apply below_alloc | apply pw_below_drewN | apply below_drew1 | refine below_set ?_ GE422.out) | exact HB.out)⟩
         (try clear BK422)
         (try clear HB)
         clear hcw17
         have BK422 := n0_
         have HB := n1_
         clear n0_ n1_
         replace BK422 := Aside0.mk (blk_drew BK422.out); replace HB := Aside0.mk (below_drew1 HB.out)
         have p423 : 0 ≤ (x14_1 : Int) := dt_
         have q423 : x14_1 < (l1.length : Int) := dt_
         obtain ⟨ad423, e423, hx423_0, hx423_1, hx423_2⟩ := at_T24 HR1.out x14_1 p423 q423
         have hw423_2 := hx423_2
         have hw423_1 := hx423_1
         have hw423_0 := hx423_0
         cases e423
         replace hx423_0 := hc_ HB hx423_0
         replace hx423_1 := hc_ HB hx423_1
         replace hx423_2 := hc_ HB hx423_2
         replace p423 := eq_true p423
         replace q423 := eq_true q423
         refine start_ (n := 10) (S := fun w' => w'.cell? ⟨gb422, 0, none⟩ = some (.string ((rd_T64 l0 x14_1).f0)) ∧ w'.cell? ⟨gb422, 1, none⟩ = some (.int .i64 ((rd_T64 l0 x14_1).f1)) ∧ w'.cell? ⟨gb422, 2, none⟩ = some (.bool ((rd_T64 l0 x14_1).f2)) ∧ w'.cell? (ad423.add ((x14_1).toNat * 3)) = some (.bool ((rd_T24 l1 x14_1).f0)) ∧ w'.cell? ⟨(ad423.add ((x14_1).toNat * 3)).block, (ad423.add ((x14_1).toNat * 3)).off + 1, none⟩ = some (.int .i64 ((rd_T24 l1 x14_1).f1)) ∧ w'.cell? ⟨(ad423.add ((x14_1).toNat * 3)).block, (ad423.add ((x14_1).toNat * 3)).off + 2, none⟩ = some (.string ((rd_T24 l1 x14_1).f2))) (ds := []) #[false, false, false, false, false, false, false, false, false, false] (by kernel_rfl) rfl rfl ⟨(blk_cell BK422.out 0).trans rfl, (blk_cell BK422.out 1).trans rfl, (blk_cell BK422.out 2).trans rfl, ((HB.out.cell (World.block_lt_of_cell? w _ hw423_0)).trans hw423_0), ((HB.out.cell (World.block_lt_of_cell? w _ hw423_1)).trans hw423_1), ((HB.out.cell (World.block_lt_of_cell? w _ hw423_2)).trans hw423_2)⟩ (fun hHeld => ?_); refine with_tabW schema_Row.tab6 schema_Row.bits6 (fun HT_ HW_ => ?_)
         generalize w17.drew = w18 at BK422 HB hx423_0 hx423_1 hx423_2 hHeld ⊢
         refine pu_ 0 (some 19) (bl_ 10 1) ?_
         refine pu_ 2 (some 21) (bl_ 10 5) ?_
         refine pu_ 4 (some 23) (bl_ 10 21) ?_
         refine pu_ 5 (some 24) (bl_ 10 53) ?_
         refine pu_ 6 (some 25) (bl_ 10 117) ?_
         refine ta_ 1 (some 20) (bl_ 10 119) hHeld ?_
         refine ta_ 3 (some 22) (bl_ 10 127) hHeld ?_
         refine ta_ 7 (some 26) (bl_ 10 255) hHeld ?_
         refine one_ (i := 8) (N := some 27) #[true, true, true, true, true, true, true, true, true, false] rfl rfl (one_of HT_.out (by kernel_rfl)) (by decide) (fun K hK => ?_)
         refine gs_ Try.func49 #[.int .i64 ((rd_T64 l0 x14_1).f1), .bool ((rd_T64 l0 x14_1).f2), .agg #[.bool ((rd_T24 l1 x14_1).f0), .int .i64 ((rd_T24 l1 x14_1).f1), .string ((rd_T24 l1 x14_1).f2)]] ?_
         with_reducible refine (cell_May.calls ((rd_T64 l0 x14_1).f1) ((rd_T64 l0 x14_1).f2) ((rd_T24 l1 x14_1).f0) ((rd_T24 l1 x14_1).f1) ((rd_T24 l1 x14_1).f2) false _ A8.out).mono ?_
         rintro e w19 ⟨rfl, hb⟩
         refine ⟨_, rfl, ?_⟩
         replace BK422 := bk_ BK422 hb; replace HB := bs_ HB hb
         (try clear hb)
         (try clear hb2)
         (try clear hk)
         (try clear hi)
         refine hK.out _ _ ⟨(blk_cell BK422.out 0).trans rfl, (blk_cell BK422.out 1).trans rfl, (blk_cell BK422.out 2).trans rfl, ((HB.out.cell (World.block_lt_of_cell? w _ hw423_0)).trans hw423_0), ((HB.out.cell (World.block_lt_of_cell? w _ hw423_1)).trans hw423_1), ((HB.out.cell (World.block_lt_of_cell? w _ hw423_2)).trans hw423_2)⟩ (fun hHeld => ?_)
         clear hK K
         refine norm_ (a' := ?_) ?_ ?_
         rotate_left
         ·show Act.put _ (some 27) _ = _
          simp only [Act.put, List.setIfInBounds_toArray, List.set_cons_zero, List.set_cons_succ, i64_w, i32_w]
          rfl
         refine pu_ 9 (some 28) (bl_ 10 1023) ?_
         refine done_ (done_of HT_.out (by kernel_rfl)) ?_
         try go_wp2
         go_ret
         exact en_ HB
       ·rw [if_neg c7] at H
        exact absurd H (by simp)
      ·rw [if_neg c6] at H
       exact absurd H (by simp)
     ·rw [if_neg c5] at H
      exact absurd H (by simp)
    ·rw [if_neg c4] at H
     have c4b0 : decide (x14_1 < (l0.length : Int)) = false := decide_eq_false c4
     clear c4
     obtain rfl := Option.some.inj H
     go_wp2
     go_ret
     exact en_ HB
 ·rw [if_neg c3] at H
  have c3b0 : ((l0.length : Int) == (l1.length : Int)) = false := beq_eq_false_iff_ne.mpr c3
  have c3b1 : ((l0.length : Int) != (l1.length : Int)) = true := bne_iff_ne.mpr c3
  have c3b2 : (l0.length == l1.length) = false := by first | simpa using c3 | (simp at c3 ⊢; omega)
  obtain rfl := Option.some.inj H
  go_enter Try.func40, Try.ntmps40
  go_wp2
  go_ret
  exact en_ HB
end Go.Proofs.Ytdedmhmomoejkaa.X
namespace Go.Proofs.Ytdedmhmomoejkaa.X
open Go.RowKit Go.Proofs.YtdedmhmomoejkaaW.PrintWords Go.Proofs.YtdedmhmomoejkaaW.PrintLast Go.Proofs.YtdedmhmomoejkaaW.PrintMore
attribute [local go_sem] max2_int max_two
set_option linter.unusedVariables false
set_option linter.unusedSimpArgs false
def eval_not.f (a0 : Int) : Option (Int) := if a0 = 2 then (some 2) else (some (wrap64 (1 - a0)))
set_option maxHeartbeats 8000000 in
set_option maxRecDepth 100000 in
theorem eval_not.calls (a0 : Int) (r : Int) (w : World) (h : eval_not.f a0 = some r) :
  Calls Try.prog 60 #[.int .i64 a0] w fun e w' => e = .returned (.int .i64 r) ∧ Drawn0 w w' := by
 have H : (if a0 = 2 then (some 2) else (some (wrap64 (1 - a0)))) = some r := h
 clear h
 by_cases c2 : a0 = 2
 ·rw [if_pos c2] at H
  have c2b0 : (a0 == 2) = true := beq_iff_eq.mpr c2
  have c2b1 : (a0 != 2) = false := bne_eq_false_iff_eq.mpr c2
  clear c2
  obtain rfl := Option.some.inj H
  go_enter Try.func60, Try.ntmps60
  go_wp2
  go_ret
  exact ⟨by first | rfl | (simp; done) | (simp [*]; done), by repeat (first | exact Drawn0.refl _ | apply Drawn0.step)⟩
 ·rw [if_neg c2] at H
  have c2b0 : (a0 == 2) = false := beq_eq_false_iff_ne.mpr c2
  have c2b1 : (a0 != 2) = true := bne_iff_ne.mpr c2
  obtain rfl := Option.some.inj H
  go_enter Try.func60, Try.ntmps60
  go_wp2
  go_ret
  exact ⟨by first | rfl | (simp; done) | (simp [*]; done), by repeat (first | exact Drawn0.refl _ | apply Drawn0.step)⟩
end Go.Proofs.Ytdedmhmomoejkaa.X
namespace Go.Proofs.Ytdedmhmomoejkaa.X
open Go.RowKit Go.Proofs.YtdedmhmomoejkaaW.PrintWords Go.Proofs.YtdedmhmomoejkaaW.PrintLast Go.Proofs.YtdedmhmomoejkaaW.PrintMore
attribute [local go_sem] max2_int max_two
set_option linter.unusedVariables false
set_option linter.unusedSimpArgs false
def eval_truth.f (a0 : Bool) : Option (Int) := if a0 = true then (some 1) else (some 0)
set_option maxHeartbeats 8000000 in
set_option maxRecDepth 100000 in
theorem eval_truth.calls (a0 : Bool) (r : Int) (w : World) (h : eval_truth.f a0 = some r) :
  Calls Try.prog 61 #[.bool a0] w fun e w' => e = .returned (.int .i64 r) ∧ Drawn0 w w' := by
 have H : (if a0 = true then (some 1) else (some 0)) = some r := h
 clear h
 by_cases c2 : a0 = true
 ·subst c2
  have H1 : (some 1) = some r := by rw [if_pos rfl] at H; exact H
  clear H
  have H := H1
  clear H1
  obtain rfl := Option.some.inj H
  go_enter Try.func61, Try.ntmps61
  go_wp2
  go_ret
  exact ⟨by first | rfl | (simp; done) | (simp [*]; done), by repeat (first | exact Drawn0.refl _ | apply Drawn0.step)⟩
 ·replace c2 := Bool.eq_false_iff.mpr c2
  subst c2
  have H1 : (some 0) = some r := by rw [if_neg (show ¬ (false = true) by decide)] at H; exact H
  clear H
  have H := H1
  clear H1
  obtain rfl := Option.some.inj H
  go_enter Try.func61, Try.ntmps61
  go_wp2
  go_ret
  exact ⟨by first | rfl | (simp; done) | (simp [*]; done), by repeat (first | exact Drawn0.refl _ | apply Drawn0.step)⟩
end Go.Proofs.Ytdedmhmomoejkaa.X
namespace Go.Proofs.Ytdedmhmomoejkaa.X
open Go.RowKit Go.Proofs.YtdedmhmomoejkaaW.PrintWords Go.Proofs.YtdedmhmomoejkaaW.PrintLast Go.Proofs.YtdedmhmomoejkaaW.PrintMore
attribute [local go_sem] max2_int max_two
set_option linter.unusedVariables false
set_option linter.unusedSimpArgs false
def eval_rank.f (a0 : Bool) : Option (Int) := if a0 = true then (some 1) else (some 0)
set_option maxHeartbeats 8000000 in
set_option maxRecDepth 100000 in
theorem eval_rank.calls (a0 : Bool) (r : Int) (w : World) (h : eval_rank.f a0 = some r) :
  Calls Try.prog 105 #[.bool a0] w fun e w' => e = .returned (.int .i64 r) ∧ Drawn0 w w' := by
 have H : (if a0 = true then (some 1) else (some 0)) = some r := h
 clear h
 by_cases c2 : a0 = true
 ·subst c2
  have H1 : (some 1) = some r := by rw [if_pos rfl] at H; exact H
  clear H
  have H := H1
  clear H1
  obtain rfl := Option.some.inj H
  go_enter Try.func105, Try.ntmps105
  go_wp2
  go_ret
  exact ⟨by first | rfl | (simp; done) | (simp [*]; done), by repeat (first | exact Drawn0.refl _ | apply Drawn0.step)⟩
 ·replace c2 := Bool.eq_false_iff.mpr c2
  subst c2
  have H1 : (some 0) = some r := by rw [if_neg (show ¬ (false = true) by decide)] at H; exact H
  clear H
  have H := H1
  clear H1
  obtain rfl := Option.some.inj H
  go_enter Try.func105, Try.ntmps105
  go_wp2
  go_ret
  exact ⟨by first | rfl | (simp; done) | (simp [*]; done), by repeat (first | exact Drawn0.refl _ | apply Drawn0.step)⟩
end Go.Proofs.Ytdedmhmomoejkaa.X
namespace Go.Proofs.Ytdedmhmomoejkaa.X
open Go.RowKit Go.Proofs.YtdedmhmomoejkaaW.PrintWords Go.Proofs.YtdedmhmomoejkaaW.PrintLast Go.Proofs.YtdedmhmomoejkaaW.PrintMore
set_option linter.unusedVariables false
set_option linter.unusedSimpArgs false
def toV (ty : Int) (c0 : Bool) (c1 : Int) (c2 : ByteArray) : Value :=
  if c0 = true then .nilIface else if ty = 1 then .iface 2 (.int .i64 c1) else if ty = 2 then .iface 4 (.bool (c1 != 0)) else if ty = 3 then .iface 9 (.string c2) else .nilIface
set_option maxHeartbeats 4000000 in
set_option maxRecDepth 100000 in
theorem to85 (ty : Int) (c0 : Bool) (c1 : Int) (c2 : ByteArray) (w : World) : Calls Try.prog 85 #[.int .i64 ty, .agg #[.bool c0, .int .i64 c1, .string c2]] w fun e w' => e = .returned (toV ty c0 c1 c2) ∧ Below w.heap.size w w' := by
  have hu24 := Try.underlying24
  cases c0 with
  | true =>
    go_enter Try.func85, Try.ntmps85
    go_wp2
    refine bodyPost_ret (v := .nilIface) (by simp [results, Try.results85, go_sem]) rfl ⟨rfl, ?_⟩
    repeat (first | exact Below.refl _ _ | apply below_alloc)
  | false =>
    by_cases t1 : ty = 1
    · have t1b : (ty == 1) = true := beq_iff_eq.2 t1
      have T := Aside0.mk t1
      clear t1
      go_enter Try.func85, Try.ntmps85
      go_wp2
      refine bodyPost_ret (v := .iface 2 (.int .i64 c1)) (by simp [results, Try.results85, go_sem]) rfl ⟨?_, ?_⟩
      · rw [toV, if_neg (by simp), if_pos T.out]
      · repeat (first | exact Below.refl _ _ | apply below_alloc)
    have t1b : (ty == 1) = false := beq_eq_false_iff_ne.2 t1
    have T := Aside0.mk t1
    clear t1
    by_cases t2 : ty = 2
    · have t2b : (ty == 2) = true := beq_iff_eq.2 t2
      have T2 := Aside0.mk t2
      clear t2
      go_enter Try.func85, Try.ntmps85
      go_wp2
      refine bodyPost_ret (v := .iface 4 (.bool (c1 != 0))) (by simp [results, Try.results85, go_sem]) rfl ⟨?_, ?_⟩
      · rw [toV, if_neg (by simp), if_neg T.out, if_pos T2.out]
      · repeat (first | exact Below.refl _ _ | apply below_alloc)
    have t2b : (ty == 2) = false := beq_eq_false_iff_ne.2 t2
    have T2 := Aside0.mk t2
    clear t2
    by_cases t3 : ty = 3
    · have t3b : (ty == 3) = true := beq_iff_eq.2 t3
      have T3 := Aside0.mk t3
      clear t3
      go_enter Try.func85, Try.ntmps85
      go_wp2
      refine bodyPost_ret (v := .iface 9 (.string c2)) (by simp [results, Try.results85, go_sem]) rfl ⟨?_, ?_⟩
      · rw [toV, if_neg (by simp), if_neg T.out, if_neg T2.out, if_pos T3.out]
      · repeat (first | exact Below.refl _ _ | apply below_alloc)
    have t3b : (ty == 3) = false := beq_eq_false_iff_ne.2 t3
    have T3 := Aside0.mk t3
    clear t3
    go_enter Try.func85, Try.ntmps85
    go_wp2
    refine bodyPost_ret (v := .nilIface) (by simp [results, Try.results85, go_sem]) rfl ⟨?_, ?_⟩
    · rw [toV, if_neg (by simp), if_neg T.out, if_neg T2.out, if_neg T3.out]
    · repeat (first | exact Below.refl _ _ | apply below_alloc)
theorem as2 (v : Value) (w : World) : (Instr.typeAssert (.iface 2 v) 20 2 false).run Try.prog w = .ok v w := by kernel_rfl
theorem as9 (v : Value) (w : World) : (Instr.typeAssert (.iface 9 v) 20 9 false).run Try.prog w = .ok v w := by kernel_rfl
theorem as4 (v : Value) (w : World) : (Instr.typeAssert (.iface 4 v) 20 4 false).run Try.prog w = .ok v w := by kernel_rfl
theorem is2 (v : Value) (w : World) : (Instr.typeAssert (.iface 2 v) 20 2 true).run Try.prog w = .ok (.tuple #[v, .bool true]) w := by kernel_rfl
theorem is9_2 (v : Value) (w : World) : (Instr.typeAssert (.iface 9 v) 20 2 true).run Try.prog w = .ok (.tuple #[.int .i64 0, .bool false]) w := by kernel_rfl
theorem is4_2 (v : Value) (w : World) : (Instr.typeAssert (.iface 4 v) 20 2 true).run Try.prog w = .ok (.tuple #[.int .i64 0, .bool false]) w := by kernel_rfl
theorem is9 (v : Value) (w : World) : (Instr.typeAssert (.iface 9 v) 20 9 true).run Try.prog w = .ok (.tuple #[v, .bool true]) w := by kernel_rfl
theorem is4_9 (v : Value) (w : World) : (Instr.typeAssert (.iface 4 v) 20 9 true).run Try.prog w = .ok (.tuple #[.string ⟨#[]⟩, .bool false]) w := by kernel_rfl
attribute [local go_sem] as2 as9 as4 is2 is9_2 is4_2 is9 is4_9
set_option maxRecDepth 100000 in
theorem int104 (n : Int) (w : World) : Calls Try.prog 104 #[.iface 2 (.int .i64 n)] w fun e w' => e = .returned (.int .i64 n) ∧ w' = w := by
  go_enter Try.func104, Try.ntmps104
  go_wp2
  go_ret
  exact ⟨rfl, rfl⟩
set_option maxRecDepth 100000 in
theorem text82 (s : ByteArray) (w : World) : Calls Try.prog 82 #[.iface 9 (.string s)] w fun e w' => e = .returned (.string s) ∧ w' = w := by
  go_enter Try.func82, Try.ntmps82
  go_wp2
  go_ret
  exact ⟨rfl, rfl⟩
set_option maxRecDepth 100000 in
theorem bool106 (b : Bool) (w : World) : Calls Try.prog 106 #[.iface 4 (.bool b)] w fun e w' => e = .returned (.bool b) ∧ w' = w := by
  go_enter Try.func106, Try.ntmps106
  go_wp2
  go_ret
  exact ⟨rfl, rfl⟩
def rankI (b : Bool) : Int := if b then 1 else 0
def ordV (ty : Int) (a1 : Int) (a2 : ByteArray) (b1 : Int) (b2 : ByteArray) : Int := if ty = 1 then cmpI a1 b1 else if ty = 3 then cmpT a2 b2 else cmpI (rankI (a1 != 0)) (rankI (b1 != 0))
set_option maxHeartbeats 4000000 in
set_option maxRecDepth 100000 in
theorem order84 (ty : Int) (h : ty = 1 ∨ ty = 2 ∨ ty = 3) (a1 : Int) (a2 : ByteArray) (b1 : Int) (b2 : ByteArray) (w : World) :
    Calls Try.prog 84 #[toV ty false a1 a2, toV ty false b1 b2] w fun e w' => e = .returned (.int .i64 (ordV ty a1 a2 b1 b2)) ∧ Below w.heap.size w w' := by
  rcases h with h | h | h
  · subst h
    show Calls Try.prog 84 #[.iface 2 (.int .i64 a1), .iface 2 (.int .i64 b1)] w fun e w' => e = .returned (.int .i64 (cmpI a1 b1)) ∧ Below w.heap.size w w'
    go_enter Try.func84, Try.ntmps84
    go_wp2_with fail
    refine (int104 b1 w).mono ?_
    rintro e w1 ⟨rfl, rfl⟩
    go_wp2_with fail
    refine (cmp_Compare_int64.calls a1 b1 _ w1 (cmpI64_f a1 b1)).mono ?_
    rintro e w2 ⟨rfl, hd⟩
    go_wp2
    go_ret
    exact ⟨rfl, hd.below⟩
  · subst h
    show Calls Try.prog 84 #[.iface 4 (.bool (a1 != 0)), .iface 4 (.bool (b1 != 0))] w fun e w' => e = .returned (.int .i64 (cmpI (rankI (a1 != 0)) (rankI (b1 != 0)))) ∧ Below w.heap.size w w'
    go_enter Try.func84, Try.ntmps84
    go_wp2_with fail
    refine (bool106 (a1 != 0) w).mono ?_
    rintro e w1 ⟨rfl, rfl⟩
    go_wp2_with fail
    refine (eval_rank.calls (a1 != 0) (rankI (a1 != 0)) w1 (by unfold eval_rank.f rankI; cases (a1 != 0) <;> rfl)).mono ?_
    rintro e w2 ⟨rfl, hd⟩
    have H2 := Aside0.mk hd.below
    clear hd
    go_wp2_with fail
    refine (bool106 (b1 != 0) w2).mono ?_
    rintro e w3 ⟨rfl, rfl⟩
    go_wp2_with fail
    refine (eval_rank.calls (b1 != 0) (rankI (b1 != 0)) w3 (by unfold eval_rank.f rankI; cases (b1 != 0) <;> rfl)).mono ?_
    rintro e w4 ⟨rfl, hd⟩
    have H4 := Aside0.mk (below_step H2.out hd.below)
    clear hd
    go_wp2_with fail
    refine (cmp_Compare_int.calls (rankI (a1 != 0)) (rankI (b1 != 0)) _ w4 (cmpI_f _ _)).mono ?_
    rintro e w5 ⟨rfl, hd⟩
    have H5 := Aside0.mk (below_step H4.out hd.below)
    clear hd
    go_wp2
    go_ret
    exact ⟨rfl, H5.out⟩
  · subst h
    show Calls Try.prog 84 #[.iface 9 (.string a2), .iface 9 (.string b2)] w fun e w' => e = .returned (.int .i64 (cmpT a2 b2)) ∧ Below w.heap.size w w'
    go_enter Try.func84, Try.ntmps84
    go_wp2_with fail
    refine (text82 b2 w).mono ?_
    rintro e w1 ⟨rfl, rfl⟩
    go_wp2_with fail
    refine (cmp_Compare_string.calls a2 b2 _ w1 (cmpT_f a2 b2)).mono ?_
    rintro e w2 ⟨rfl, hd⟩
    go_wp2
    go_ret
    exact ⟨rfl, hd.below⟩
end Go.Proofs.Ytdedmhmomoejkaa.X
namespace Go.Proofs.Ytdedmhmomoejkaa.X
open Go.RowKit Go.Proofs.YtdedmhmomoejkaaW.PrintWords Go.Proofs.YtdedmhmomoejkaaW.PrintLast Go.Proofs.YtdedmhmomoejkaaW.PrintMore
set_option linter.unusedVariables false
set_option linter.unusedSimpArgs false
set_option maxHeartbeats 4000000 in
set_option maxRecDepth 100000 in
theorem value80 (A0 : Option Addr) (c0 : Nat) (l0 : List S64) (A1 : Option Addr) (c1 : Nat) (l1 : List S24) (s : ByteArray) (w : World) (hr0 : Kd.C k64 w A0 l0.length l0) (hc0 : l0.length ≤ c0) (hr1 : Kd.C k24 w A1 l1.length l1) (hc1 : l1.length ≤ c1)
    (q : Int) (hq : q = idxOf (fun y : S64 => y.f0.toList == s.toList) l0) (h0 : 0 ≤ q) (h1 : q < l0.length) (h2 : q < l1.length) :
    Calls Try.prog 80 #[.agg #[.slice A0 l0.length c0, .slice A1 l1.length c1], .string s] w fun e w' => e = .returned (toV (rd_T64 l0 q).f1 (rd_T24 l1 q).f0 (rd_T24 l1 q).f1 (rd_T24 l1 q).f2) ∧ Below w.heap.size w w' := by
  have hu24 := Try.underlying24
  have hu81 := Try.underlying81
  have HR0 := Aside0.mk hr0
  have HC0 := Aside0.mk hc0
  have HR1 := Aside0.mk hr1
  have HC1 := Aside0.mk hc1
  clear hr0 hc0 hr1 hc1
  have HF : Aside0 (schema_Find.f l0 s = some (mx q 0, decide (0 ≤ q))) := ⟨by rw [hq]; rfl⟩
  have hmx : mx q 0 = q := by unfold mx; split <;> omega
  clear hq
  go_enter Try.func80, Try.ntmps80
  go_wp2_with fail
  refine (schema_Find.calls A0 c0 l0 s (mx q 0) (decide (0 ≤ q)) _ (Kd.C_below HR0.out (below_alloc (Below.refl _ _) _)) HC0.out HF.out).mono ?_
  rintro e w1 ⟨rfl, hb⟩
  rw [hmx]
  have BK : Aside0 (w1.heap[w.heap.size]? = some (.cells #[.slice A0 l0.length c0, .slice A1 l1.length c1] 81 (0, 0))) := ⟨blk_below (heap_alloc_new w _) hb⟩
  have HB : Aside0 (Below w.heap.size w w1) := ⟨below_step (below_alloc (Below.refl _ _) _) hb⟩
  clear hb HF hmx
  obtain ⟨ad, e, g0, g1, g2⟩ := at_T64 (Kd.C_below HR0.out HB.out) q h0 h1
  cases e
  obtain ⟨ae, e, k0, k1, k2⟩ := at_T24 (Kd.C_below HR1.out HB.out) q h0 h2
  cases e
  have hz0 : w1.cell? ⟨w.heap.size, 0, none⟩ = some (.slice (some ad) l0.length c0) := (blk_cell BK.out 0).trans rfl
  have hz1 : w1.cell? ⟨w.heap.size, 1, none⟩ = some (.slice (some ae) l1.length c1) := (blk_cell BK.out 1).trans rfl
  go_wp2_with fail
  go_still_tail 11, (by kernel_rfl)
  change wpList _ _ _ _ _ w1.drew
  have HB2 := Aside0.mk (below_drew1 HB.out)
  generalize w1.drew = w2 at HB2 ⊢
  clear g0 g1 g2 k0 k1 k2 hz0 hz1 BK HB
  go_wp2_with fail
  refine (to85 _ _ _ _ w2).mono ?_
  rintro e w3 ⟨rfl, hb⟩
  have HB3 := Aside0.mk (below_step HB2.out hb)
  clear hb
  go_wp2
  go_ret
  exact ⟨rfl, HB3.out⟩
end Go.Proofs.Ytdedmhmomoejkaa.X
