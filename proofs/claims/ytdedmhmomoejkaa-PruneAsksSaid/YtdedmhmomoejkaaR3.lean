/- Words and walks for pruneAsks_holds, part 3 of the texts that a program of this session laid together. -/
import Derived.Test.YtdedmhmomoejkaaR1
import Derived.Test.YtdedmhmomoejkaaR2
namespace Go.Proofs.Ytdedmhmomoejkaa.X
open Go.RowKit Go.Proofs.YtdedmhmomoejkaaW.PrintWords Go.Proofs.YtdedmhmomoejkaaW.PrintLast Go.Proofs.YtdedmhmomoejkaaW.PrintMore
attribute [local go_sem] max2_int max_two
set_option linter.unusedVariables false
set_option linter.unusedSimpArgs false
def cmp_Compare_int.f (a0 : Int) (a1 : Int) : Option (Int) := (cmp_isNaN_int.f a0).bind fun t133 => ((cmp_isNaN_int.f a1).bind fun t134 => (if t133 = true then (if t134 = true then (some 0) else (some (-1))) else (if t134 = true then (some 1) else (if a0 < a1 then (some (-1)) else (if a0 > a1 then (some 1) else (some 0))))))
set_option maxHeartbeats 8000000 in
set_option maxRecDepth 100000 in
theorem cmp_Compare_int.calls (a0 : Int) (a1 : Int) (r : Int) (w : World) (h : cmp_Compare_int.f a0 a1 = some r) :
  Calls Try.prog 71 #[.int .i64 a0, .int .i64 a1] w fun e w' => e = .returned (.int .i64 r) ∧ Drawn0 w w' := by
 have H : ((cmp_isNaN_int.f a0).bind fun t133 => ((cmp_isNaN_int.f a1).bind fun t134 => (if t133 = true then (if t134 = true then (some 0) else (some (-1))) else (if t134 = true then (some 1) else (if a0 < a1 then (some (-1)) else (if a0 > a1 then (some 1) else (some 0))))))) = some r := h
 clear h
 replace H := Option.bind_eq_some_iff.mp H
 obtain ⟨t133, A30, H⟩ := H
 replace H : ((cmp_isNaN_int.f a1).bind fun t134 => (if t133 = true then (if t134 = true then (some 0) else (some (-1))) else (if t134 = true then (some 1) else (if a0 < a1 then (some (-1)) else (if a0 > a1 then (some 1) else (some 0)))))) = some r := H
 have A3 := Aside0.mk A30
 clear A30
 replace H := Option.bind_eq_some_iff.mp H
 obtain ⟨t134, A40, H⟩ := H
 replace H : (if t133 = true then (if t134 = true then (some 0) else (some (-1))) else (if t134 = true then (some 1) else (if a0 < a1 then (some (-1)) else (if a0 > a1 then (some 1) else (some 0))))) = some r := H
 have A4 := Aside0.mk A40
 clear A40
 by_cases c5 : t133 = true
 ·subst c5
  have H1 : (if t134 = true then (some 0) else (some (-1))) = some r := by rw [if_pos rfl] at H; exact H
  clear H
  have H := H1
  clear H1
  by_cases c6 : t134 = true
  ·subst c6
   have H1 : (some 0) = some r := by rw [if_pos rfl] at H; exact H
   clear H
   have H := H1
   clear H1
   obtain rfl := Option.some.inj H
   go_enter Try.func71, Try.ntmps71
   go_wp2_with (first | ((with_reducible refine gate_callee (f := 94) rfl ?_); refine gl_ (some 8) rfl Try.func94 #[.int .i64 a0] ?_; (with_reducible refine (cmp_isNaN_int.calls a0 true _ A3.out).mono ?_); rintro e w' ⟨rfl, ⟨nd, rfl⟩⟩; refine ⟨_, rfl, ?_⟩) | ((with_reducible refine gate_callee (f := 94) rfl ?_); refine gl_ (some 10) rfl Try.func94 #[.int .i64 a1] ?_; (with_reducible refine (cmp_isNaN_int.calls a1 true _ A4.out).mono ?_); rintro e w' ⟨rfl, ⟨nd, rfl⟩⟩; refine ⟨_, rfl, ?_⟩))
   go_ret
   exact ⟨by first | rfl | (simp; done) | (simp [*]; done), by repeat (first | exact Drawn0.refl _ | apply Drawn0.step)⟩
  ·replace c6 := Bool.eq_false_iff.mpr c6
   subst c6
   have H1 : (some (-1)) = some r := by rw [if_neg (show ¬ (false = true) by decide)] at H; exact H
   clear H
   have H := H1
   clear H1
   obtain rfl := Option.some.inj H
   go_enter Try.func71, Try.ntmps71
   go_wp2_with (first | ((with_reducible refine gate_callee (f := 94) rfl ?_); refine gl_ (some 8) rfl Try.func94 #[.int .i64 a0] ?_; (with_reducible refine (cmp_isNaN_int.calls a0 true _ A3.out).mono ?_); rintro e w' ⟨rfl, ⟨nd, rfl⟩⟩; refine ⟨_, rfl, ?_⟩) | ((with_reducible refine gate_callee (f := 94) rfl ?_); refine gl_ (some 10) rfl Try.func94 #[.int .i64 a1] ?_; (with_reducible refine (cmp_isNaN_int.calls a1 false _ A4.out).mono ?_); rintro e w' ⟨rfl, ⟨nd, rfl⟩⟩; refine ⟨_, rfl, ?_⟩))
   go_ret
   exact ⟨by first | rfl | (simp; done) | (simp [*]; done), by repeat (first | exact Drawn0.refl _ | apply Drawn0.step)⟩
 ·replace c5 := Bool.eq_false_iff.mpr c5
  subst c5
  have H1 : (if t134 = true then (some 1) else (if a0 < a1 then (some (-1)) else (if a0 > a1 then (some 1) else (some 0)))) = some r := by rw [if_neg (show ¬ (false = true) by decide)] at H; exact H
  clear H
  have H := H1
  clear H1
  by_cases c7 : t134 = true
  ·subst c7
   have H1 : (some 1) = some r := by rw [if_pos rfl] at H; exact H
   clear H
   have H := H1
   clear H1
   obtain rfl := Option.some.inj H
   go_enter Try.func71, Try.ntmps71
   go_wp2_with (first | ((with_reducible refine gate_callee (f := 94) rfl ?_); refine gl_ (some 8) rfl Try.func94 #[.int .i64 a0] ?_; (with_reducible refine (cmp_isNaN_int.calls a0 false _ A3.out).mono ?_); rintro e w' ⟨rfl, ⟨nd, rfl⟩⟩; refine ⟨_, rfl, ?_⟩) | ((with_reducible refine gate_callee (f := 94) rfl ?_); refine gl_ (some 10) rfl Try.func94 #[.int .i64 a1] ?_; (with_reducible refine (cmp_isNaN_int.calls a1 true _ A4.out).mono ?_); rintro e w' ⟨rfl, ⟨nd, rfl⟩⟩; refine ⟨_, rfl, ?_⟩))
   go_ret
   exact ⟨by first | rfl | (simp; done) | (simp [*]; done), by repeat (first | exact Drawn0.refl _ | apply Drawn0.step)⟩
  ·replace c7 := Bool.eq_false_iff.mpr c7
   subst c7
   have H1 : (if a0 < a1 then (some (-1)) else (if a0 > a1 then (some 1) else (some 0))) = some r := by rw [if_neg (show ¬ (false = true) by decide)] at H; exact H
   clear H
   have H := H1
   clear H1
   by_cases c8 : a0 < a1
   ·rw [if_pos c8] at H
    have c8b0 : decide (a0 < a1) = true := decide_eq_true c8
    clear c8
    obtain rfl := Option.some.inj H
    go_enter Try.func71, Try.ntmps71
    go_wp2_with (first | ((with_reducible refine gate_callee (f := 94) rfl ?_); refine gl_ (some 8) rfl Try.func94 #[.int .i64 a0] ?_; (with_reducible refine (cmp_isNaN_int.calls a0 false _ A3.out).mono ?_); rintro e w' ⟨rfl, ⟨nd, rfl⟩⟩; refine ⟨_, rfl, ?_⟩) | ((with_reducible refine gate_callee (f := 94) rfl ?_); refine gl_ (some 10) rfl Try.func94 #[.int .i64 a1] ?_; (with_reducible refine (cmp_isNaN_int.calls a1 false _ A4.out).mono ?_); rintro e w' ⟨rfl, ⟨nd, rfl⟩⟩; refine ⟨_, rfl, ?_⟩))
    go_ret
    exact ⟨by first | rfl | (simp; done) | (simp [*]; done), by repeat (first | exact Drawn0.refl _ | apply Drawn0.step)⟩
   ·rw [if_neg c8] at H
    have c8b0 : decide (a0 < a1) = false := decide_eq_false c8
    clear c8
    by_cases c9 : a0 > a1
    ·rw [if_pos c9] at H
     have c9b0 : decide (a1 < a0) = true := decide_eq_true c9
     clear c9
     obtain rfl := Option.some.inj H
     go_enter Try.func71, Try.ntmps71
     go_wp2_with (first | ((with_reducible refine gate_callee (f := 94) rfl ?_); refine gl_ (some 8) rfl Try.func94 #[.int .i64 a0] ?_; (with_reducible refine (cmp_isNaN_int.calls a0 false _ A3.out).mono ?_); rintro e w' ⟨rfl, ⟨nd, rfl⟩⟩; refine ⟨_, rfl, ?_⟩) | ((with_reducible refine gate_callee (f := 94) rfl ?_); refine gl_ (some 10) rfl Try.func94 #[.int .i64 a1] ?_; (with_reducible refine (cmp_isNaN_int.calls a1 false _ A4.out).mono ?_); rintro e w' ⟨rfl, ⟨nd, rfl⟩⟩; refine ⟨_, rfl, ?_⟩))
     go_ret
     exact ⟨by first | rfl | (simp; done) | (simp [*]; done), by repeat (first | exact Drawn0.refl _ | apply Drawn0.step)⟩
    ·rw [if_neg c9] at H
     have c9b0 : decide (a1 < a0) = false := decide_eq_false c9
     clear c9
     obtain rfl := Option.some.inj H
     go_enter Try.func71, Try.ntmps71
     go_wp2_with (first | ((with_reducible refine gate_callee (f := 94) rfl ?_); refine gl_ (some 8) rfl Try.func94 #[.int .i64 a0] ?_; (with_reducible refine (cmp_isNaN_int.calls a0 false _ A3.out).mono ?_); rintro e w' ⟨rfl, ⟨nd, rfl⟩⟩; refine ⟨_, rfl, ?_⟩) | ((with_reducible refine gate_callee (f := 94) rfl ?_); refine gl_ (some 10) rfl Try.func94 #[.int .i64 a1] ?_; (with_reducible refine (cmp_isNaN_int.calls a1 false _ A4.out).mono ?_); rintro e w' ⟨rfl, ⟨nd, rfl⟩⟩; refine ⟨_, rfl, ?_⟩))
     go_ret
     exact ⟨by first | rfl | (simp; done) | (simp [*]; done), by repeat (first | exact Drawn0.refl _ | apply Drawn0.step)⟩
end Go.Proofs.Ytdedmhmomoejkaa.X
namespace Go.Proofs.Ytdedmhmomoejkaa.X
open Go.RowKit Go.Proofs.YtdedmhmomoejkaaW.PrintWords Go.Proofs.YtdedmhmomoejkaaW.PrintLast Go.Proofs.YtdedmhmomoejkaaW.PrintMore
attribute [local go_sem] max2_int max_two
set_option linter.unusedVariables false
set_option linter.unusedSimpArgs false
def cell_flag.f (a0_0 : Bool) (a0_1 : Int) (a0_2 : ByteArray) : Option (Int) := if a0_0 = true then (some 0) else (some 1)
set_option maxHeartbeats 8000000 in
set_option maxRecDepth 100000 in
theorem cell_flag.calls (a0_0 : Bool) (a0_1 : Int) (a0_2 : ByteArray) (r : Int) (w : World) (h : cell_flag.f a0_0 a0_1 a0_2 = some r) :
  Calls Try.prog 72 #[.agg #[.bool a0_0, .int .i64 a0_1, .string a0_2]] w fun e w' => e = .returned (.int .i64 r) ∧ Below w.heap.size w w' := by
 have hu24 := Try.underlying24
 have HB := Aside0.mk (Below.refl w.heap.size w)
 have H : (if a0_0 = true then (some 0) else (some 1)) = some r := h
 clear h
 by_cases c2 : a0_0 = true
 ·subst c2
  have H1 : (some 0) = some r := by rw [if_pos rfl] at H; exact H
  clear H
  have H := H1
  clear H1
  obtain rfl := Option.some.inj H
  go_enter Try.func72, Try.ntmps72
  go_wp2_with (first | (refine bx_ (N := 1) (cs := #[.bool true, .int .i64 a0_1, .string a0_2]) (t := 24) ?_; intro gb135 hg w3 hbox hb; have BK135 := Aside0.mk (hbox); have GW135 := ge_ HB hg; have GE135 := ge_ HB hg; replace HB := bs_ HB hb; clear hb hbox hg; obtain ⟨C4_0, C4_1, C4_2⟩ := zc3_ BK135.out; obtain ⟨F4_0, F4_1, F4_2⟩ := zf3_ BK135.out))
  go_ret
  exact en_ HB
 ·replace c2 := Bool.eq_false_iff.mpr c2
  subst c2
  have H1 : (some 1) = some r := by rw [if_neg (show ¬ (false = true) by decide)] at H; exact H
  clear H
  have H := H1
  clear H1
  obtain rfl := Option.some.inj H
  go_enter Try.func72, Try.ntmps72
  go_wp2_with (first | (refine bx_ (N := 1) (cs := #[.bool false, .int .i64 a0_1, .string a0_2]) (t := 24) ?_; intro gb135 hg w5 hbox hb; have BK135 := Aside0.mk (hbox); have GW135 := ge_ HB hg; have GE135 := ge_ HB hg; replace HB := bs_ HB hb; clear hb hbox hg; obtain ⟨C6_0, C6_1, C6_2⟩ := zc3_ BK135.out; obtain ⟨F6_0, F6_1, F6_2⟩ := zf3_ BK135.out))
  go_ret
  exact en_ HB
end Go.Proofs.Ytdedmhmomoejkaa.X
namespace Go.Proofs.Ytdedmhmomoejkaa.X
open Go.RowKit Go.Proofs.YtdedmhmomoejkaaW.PrintWords Go.Proofs.YtdedmhmomoejkaaW.PrintLast Go.Proofs.YtdedmhmomoejkaaW.PrintMore
attribute [local go_sem] max2_int max_two
set_option linter.unusedVariables false
set_option linter.unusedSimpArgs false
def cmp_isNaN_int64.f (a0 : Int) : Option (Bool) := some (a0 != a0)
set_option maxHeartbeats 8000000 in
set_option maxRecDepth 100000 in
theorem cmp_isNaN_int64.calls (a0 : Int) (r : Bool) (w : World) (h : cmp_isNaN_int64.f a0 = some r) :
  Calls Try.prog 95 #[.int .i64 a0] w fun e w' => e = .returned (.bool r) ∧ Drawn0 w w' := by
 have H : (some (a0 != a0)) = some r := h
 clear h
 obtain rfl := Option.some.inj H
 go_enter Try.func95, Try.ntmps95
 go_wp2
 go_ret
 exact ⟨by first | rfl | (simp; done) | (simp [*]; done), by repeat (first | exact Drawn0.refl _ | apply Drawn0.step)⟩
end Go.Proofs.Ytdedmhmomoejkaa.X
namespace Go.Proofs.Ytdedmhmomoejkaa.X
open Go.RowKit Go.Proofs.YtdedmhmomoejkaaW.PrintWords Go.Proofs.YtdedmhmomoejkaaW.PrintLast Go.Proofs.YtdedmhmomoejkaaW.PrintMore
attribute [local go_sem] max2_int max_two
set_option linter.unusedVariables false
set_option linter.unusedSimpArgs false
def cmp_Compare_int64.f (a0 : Int) (a1 : Int) : Option (Int) := (cmp_isNaN_int64.f a0).bind fun t136 => ((cmp_isNaN_int64.f a1).bind fun t137 => (if t136 = true then (if t137 = true then (some 0) else (some (-1))) else (if t137 = true then (some 1) else (if a0 < a1 then (some (-1)) else (if a0 > a1 then (some 1) else (some 0))))))
set_option maxHeartbeats 8000000 in
set_option maxRecDepth 100000 in
theorem cmp_Compare_int64.calls (a0 : Int) (a1 : Int) (r : Int) (w : World) (h : cmp_Compare_int64.f a0 a1 = some r) :
  Calls Try.prog 73 #[.int .i64 a0, .int .i64 a1] w fun e w' => e = .returned (.int .i64 r) ∧ Drawn0 w w' := by
 have H : ((cmp_isNaN_int64.f a0).bind fun t136 => ((cmp_isNaN_int64.f a1).bind fun t137 => (if t136 = true then (if t137 = true then (some 0) else (some (-1))) else (if t137 = true then (some 1) else (if a0 < a1 then (some (-1)) else (if a0 > a1 then (some 1) else (some 0))))))) = some r := h
 clear h
 replace H := Option.bind_eq_some_iff.mp H
 obtain ⟨t136, A30, H⟩ := H
 replace H : ((cmp_isNaN_int64.f a1).bind fun t137 => (if t136 = true then (if t137 = true then (some 0) else (some (-1))) else (if t137 = true then (some 1) else (if a0 < a1 then (some (-1)) else (if a0 > a1 then (some 1) else (some 0)))))) = some r := H
 have A3 := Aside0.mk A30
 clear A30
 replace H := Option.bind_eq_some_iff.mp H
 obtain ⟨t137, A40, H⟩ := H
 replace H : (if t136 = true then (if t137 = true then (some 0) else (some (-1))) else (if t137 = true then (some 1) else (if a0 < a1 then (some (-1)) else (if a0 > a1 then (some 1) else (some 0))))) = some r := H
 have A4 := Aside0.mk A40
 clear A40
 by_cases c5 : t136 = true
 ·subst c5
  have H1 : (if t137 = true then (some 0) else (some (-1))) = some r := by rw [if_pos rfl] at H; exact H
  clear H
  have H := H1
  clear H1
  by_cases c6 : t137 = true
  ·subst c6
   have H1 : (some 0) = some r := by rw [if_pos rfl] at H; exact H
   clear H
   have H := H1
   clear H1
   obtain rfl := Option.some.inj H
   go_enter Try.func73, Try.ntmps73
   go_wp2_with (first | ((with_reducible refine gate_callee (f := 95) rfl ?_); refine gl_ (some 8) rfl Try.func95 #[.int .i64 a0] ?_; (with_reducible refine (cmp_isNaN_int64.calls a0 true _ A3.out).mono ?_); rintro e w' ⟨rfl, ⟨nd, rfl⟩⟩; refine ⟨_, rfl, ?_⟩) | ((with_reducible refine gate_callee (f := 95) rfl ?_); refine gl_ (some 10) rfl Try.func95 #[.int .i64 a1] ?_; (with_reducible refine (cmp_isNaN_int64.calls a1 true _ A4.out).mono ?_); rintro e w' ⟨rfl, ⟨nd, rfl⟩⟩; refine ⟨_, rfl, ?_⟩))
   go_ret
   exact ⟨by first | rfl | (simp; done) | (simp [*]; done), by repeat (first | exact Drawn0.refl _ | apply Drawn0.step)⟩
  ·replace c6 := Bool.eq_false_iff.mpr c6
   subst c6
   have H1 : (some (-1)) = some r := by rw [if_neg (show ¬ (false = true) by decide)] at H; exact H
   clear H
   have H := H1
   clear H1
   obtain rfl := Option.some.inj H
   go_enter Try.func73, Try.ntmps73
   go_wp2_with (first | ((with_reducible refine gate_callee (f := 95) rfl ?_); refine gl_ (some 8) rfl Try.func95 #[.int .i64 a0] ?_; (with_reducible refine (cmp_isNaN_int64.calls a0 true _ A3.out).mono ?_); rintro e w' ⟨rfl, ⟨nd, rfl⟩⟩; refine ⟨_, rfl, ?_⟩) | ((with_reducible refine gate_callee (f := 95) rfl ?_); refine gl_ (some 10) rfl Try.func95 #[.int .i64 a1] ?_; (with_reducible refine (cmp_isNaN_int64.calls a1 false _ A4.out).mono ?_); rintro e w' ⟨rfl, ⟨nd, rfl⟩⟩; refine ⟨_, rfl, ?_⟩))
   go_ret
   exact ⟨by first | rfl | (simp; done) | (simp [*]; done), by repeat (first | exact Drawn0.refl _ | apply Drawn0.step)⟩
 ·replace c5 := Bool.eq_false_iff.mpr c5
  subst c5
  have H1 : (if t137 = true then (some 1) else (if a0 < a1 then (some (-1)) else (if a0 > a1 then (some 1) else (some 0)))) = some r := by rw [if_neg (show ¬ (false = true) by decide)] at H; exact H
  clear H
  have H := H1
  clear H1
  by_cases c7 : t137 = true
  ·subst c7
   have H1 : (some 1) = some r := by rw [if_pos rfl] at H; exact H
   clear H
   have H := H1
   clear H1
   obtain rfl := Option.some.inj H
   go_enter Try.func73, Try.ntmps73
   go_wp2_with (first | ((with_reducible refine gate_callee (f := 95) rfl ?_); refine gl_ (some 8) rfl Try.func95 #[.int .i64 a0] ?_; (with_reducible refine (cmp_isNaN_int64.calls a0 false _ A3.out).mono ?_); rintro e w' ⟨rfl, ⟨nd, rfl⟩⟩; refine ⟨_, rfl, ?_⟩) | ((with_reducible refine gate_callee (f := 95) rfl ?_); refine gl_ (some 10) rfl Try.func95 #[.int .i64 a1] ?_; (with_reducible refine (cmp_isNaN_int64.calls a1 true _ A4.out).mono ?_); rintro e w' ⟨rfl, ⟨nd, rfl⟩⟩; refine ⟨_, rfl, ?_⟩))
   go_ret
   exact ⟨by first | rfl | (simp; done) | (simp [*]; done), by repeat (first | exact Drawn0.refl _ | apply Drawn0.step)⟩
  ·replace c7 := Bool.eq_false_iff.mpr c7
   subst c7
   have H1 : (if a0 < a1 then (some (-1)) else (if a0 > a1 then (some 1) else (some 0))) = some r := by rw [if_neg (show ¬ (false = true) by decide)] at H; exact H
   clear H
   have H := H1
   clear H1
   by_cases c8 : a0 < a1
   ·rw [if_pos c8] at H
    have c8b0 : decide (a0 < a1) = true := decide_eq_true c8
    clear c8
    obtain rfl := Option.some.inj H
    go_enter Try.func73, Try.ntmps73
    go_wp2_with (first | ((with_reducible refine gate_callee (f := 95) rfl ?_); refine gl_ (some 8) rfl Try.func95 #[.int .i64 a0] ?_; (with_reducible refine (cmp_isNaN_int64.calls a0 false _ A3.out).mono ?_); rintro e w' ⟨rfl, ⟨nd, rfl⟩⟩; refine ⟨_, rfl, ?_⟩) | ((with_reducible refine gate_callee (f := 95) rfl ?_); refine gl_ (some 10) rfl Try.func95 #[.int .i64 a1] ?_; (with_reducible refine (cmp_isNaN_int64.calls a1 false _ A4.out).mono ?_); rintro e w' ⟨rfl, ⟨nd, rfl⟩⟩; refine ⟨_, rfl, ?_⟩))
    go_ret
    exact ⟨by first | rfl | (simp; done) | (simp [*]; done), by repeat (first | exact Drawn0.refl _ | apply Drawn0.step)⟩
   ·rw [if_neg c8] at H
    have c8b0 : decide (a0 < a1) = false := decide_eq_false c8
    clear c8
    by_cases c9 : a0 > a1
    ·rw [if_pos c9] at H
     have c9b0 : decide (a1 < a0) = true := decide_eq_true c9
     clear c9
     obtain rfl := Option.some.inj H
     go_enter Try.func73, Try.ntmps73
     go_wp2_with (first | ((with_reducible refine gate_callee (f := 95) rfl ?_); refine gl_ (some 8) rfl Try.func95 #[.int .i64 a0] ?_; (with_reducible refine (cmp_isNaN_int64.calls a0 false _ A3.out).mono ?_); rintro e w' ⟨rfl, ⟨nd, rfl⟩⟩; refine ⟨_, rfl, ?_⟩) | ((with_reducible refine gate_callee (f := 95) rfl ?_); refine gl_ (some 10) rfl Try.func95 #[.int .i64 a1] ?_; (with_reducible refine (cmp_isNaN_int64.calls a1 false _ A4.out).mono ?_); rintro e w' ⟨rfl, ⟨nd, rfl⟩⟩; refine ⟨_, rfl, ?_⟩))
     go_ret
     exact ⟨by first | rfl | (simp; done) | (simp [*]; done), by repeat (first | exact Drawn0.refl _ | apply Drawn0.step)⟩
    ·rw [if_neg c9] at H
     have c9b0 : decide (a1 < a0) = false := decide_eq_false c9
     clear c9
     obtain rfl := Option.some.inj H
     go_enter Try.func73, Try.ntmps73
     go_wp2_with (first | ((with_reducible refine gate_callee (f := 95) rfl ?_); refine gl_ (some 8) rfl Try.func95 #[.int .i64 a0] ?_; (with_reducible refine (cmp_isNaN_int64.calls a0 false _ A3.out).mono ?_); rintro e w' ⟨rfl, ⟨nd, rfl⟩⟩; refine ⟨_, rfl, ?_⟩) | ((with_reducible refine gate_callee (f := 95) rfl ?_); refine gl_ (some 10) rfl Try.func95 #[.int .i64 a1] ?_; (with_reducible refine (cmp_isNaN_int64.calls a1 false _ A4.out).mono ?_); rintro e w' ⟨rfl, ⟨nd, rfl⟩⟩; refine ⟨_, rfl, ?_⟩))
     go_ret
     exact ⟨by first | rfl | (simp; done) | (simp [*]; done), by repeat (first | exact Drawn0.refl _ | apply Drawn0.step)⟩
end Go.Proofs.Ytdedmhmomoejkaa.X
namespace Go.Proofs.Ytdedmhmomoejkaa.X
open Go.RowKit Go.Proofs.YtdedmhmomoejkaaW.PrintWords Go.Proofs.YtdedmhmomoejkaaW.PrintLast Go.Proofs.YtdedmhmomoejkaaW.PrintMore
attribute [local go_sem] max2_int max_two
set_option linter.unusedVariables false
set_option linter.unusedSimpArgs false
def cmp_isNaN_string.f (a0 : ByteArray) : Option (Bool) := some (a0.toList != a0.toList)
set_option maxHeartbeats 8000000 in
set_option maxRecDepth 100000 in
theorem cmp_isNaN_string.calls (a0 : ByteArray) (r : Bool) (w : World) (h : cmp_isNaN_string.f a0 = some r) :
  Calls Try.prog 96 #[.string a0] w fun e w' => e = .returned (.bool r) ∧ Drawn0 w w' := by
 have H : (some (a0.toList != a0.toList)) = some r := h
 clear h
 obtain rfl := Option.some.inj H
 go_enter Try.func96, Try.ntmps96
 go_wp2
 go_ret
 exact ⟨by first | rfl | (simp; done) | (simp [*]; done), by repeat (first | exact Drawn0.refl _ | apply Drawn0.step)⟩
end Go.Proofs.Ytdedmhmomoejkaa.X
namespace Go.Proofs.Ytdedmhmomoejkaa.X
open Go.RowKit Go.Proofs.YtdedmhmomoejkaaW.PrintWords Go.Proofs.YtdedmhmomoejkaaW.PrintLast Go.Proofs.YtdedmhmomoejkaaW.PrintMore
attribute [local go_sem] max2_int max_two
set_option linter.unusedVariables false
set_option linter.unusedSimpArgs false
def cmp_Compare_string.f (a0 : ByteArray) (a1 : ByteArray) : Option (Int) := (cmp_isNaN_string.f a0).bind fun t138 => ((cmp_isNaN_string.f a1).bind fun t139 => (if t138 = true then (if t139 = true then (some 0) else (some (-1))) else (if t139 = true then (some 1) else (if (Op.bytesLess a0.toList a1.toList) = true then (some (-1)) else (if a0.toList = a1.toList then (some 0) else (some 1))))))
set_option maxHeartbeats 8000000 in
set_option maxRecDepth 100000 in
theorem cmp_Compare_string.calls (a0 : ByteArray) (a1 : ByteArray) (r : Int) (w : World) (h : cmp_Compare_string.f a0 a1 = some r) :
  Calls Try.prog 74 #[.string a0, .string a1] w fun e w' => e = .returned (.int .i64 r) ∧ Drawn0 w w' := by
 have H : ((cmp_isNaN_string.f a0).bind fun t138 => ((cmp_isNaN_string.f a1).bind fun t139 => (if t138 = true then (if t139 = true then (some 0) else (some (-1))) else (if t139 = true then (some 1) else (if (Op.bytesLess a0.toList a1.toList) = true then (some (-1)) else (if a0.toList = a1.toList then (some 0) else (some 1))))))) = some r := h
 clear h
 replace H := Option.bind_eq_some_iff.mp H
 obtain ⟨t138, A30, H⟩ := H
 replace H : ((cmp_isNaN_string.f a1).bind fun t139 => (if t138 = true then (if t139 = true then (some 0) else (some (-1))) else (if t139 = true then (some 1) else (if (Op.bytesLess a0.toList a1.toList) = true then (some (-1)) else (if a0.toList = a1.toList then (some 0) else (some 1)))))) = some r := H
 have A3 := Aside0.mk A30
 clear A30
 replace H := Option.bind_eq_some_iff.mp H
 obtain ⟨t139, A40, H⟩ := H
 replace H : (if t138 = true then (if t139 = true then (some 0) else (some (-1))) else (if t139 = true then (some 1) else (if (Op.bytesLess a0.toList a1.toList) = true then (some (-1)) else (if a0.toList = a1.toList then (some 0) else (some 1))))) = some r := H
 have A4 := Aside0.mk A40
 clear A40
 by_cases c5 : t138 = true
 ·subst c5
  have H1 : (if t139 = true then (some 0) else (some (-1))) = some r := by rw [if_pos rfl] at H; exact H
  clear H
  have H := H1
  clear H1
  by_cases c6 : t139 = true
  ·subst c6
   have H1 : (some 0) = some r := by rw [if_pos rfl] at H; exact H
   clear H
   have H := H1
   clear H1
   obtain rfl := Option.some.inj H
   go_enter Try.func74, Try.ntmps74
   go_wp2_with (first | ((with_reducible refine gate_callee (f := 96) rfl ?_); refine gl_ (some 8) rfl Try.func96 #[.string a0] ?_; (with_reducible refine (cmp_isNaN_string.calls a0 true _ A3.out).mono ?_); rintro e w' ⟨rfl, ⟨nd, rfl⟩⟩; refine ⟨_, rfl, ?_⟩) | ((with_reducible refine gate_callee (f := 96) rfl ?_); refine gl_ (some 10) rfl Try.func96 #[.string a1] ?_; (with_reducible refine (cmp_isNaN_string.calls a1 true _ A4.out).mono ?_); rintro e w' ⟨rfl, ⟨nd, rfl⟩⟩; refine ⟨_, rfl, ?_⟩))
   go_ret
   exact ⟨by first | rfl | (simp; done) | (simp [*]; done), by repeat (first | exact Drawn0.refl _ | apply Drawn0.step)⟩
  ·replace c6 := Bool.eq_false_iff.mpr c6
   subst c6
   have H1 : (some (-1)) = some r := by rw [if_neg (show ¬ (false = true) by decide)] at H; exact H
   clear H
   have H := H1
   clear H1
   obtain rfl := Option.some.inj H
   go_enter Try.func74, Try.ntmps74
   go_wp2_with (first | ((with_reducible refine gate_callee (f := 96) rfl ?_); refine gl_ (some 8) rfl Try.func96 #[.string a0] ?_; (with_reducible refine (cmp_isNaN_string.calls a0 true _ A3.out).mono ?_); rintro e w' ⟨rfl, ⟨nd, rfl⟩⟩; refine ⟨_, rfl, ?_⟩) | ((with_reducible refine gate_callee (f := 96) rfl ?_); refine gl_ (some 10) rfl Try.func96 #[.string a1] ?_; (with_reducible refine (cmp_isNaN_string.calls a1 false _ A4.out).mono ?_); rintro e w' ⟨rfl, ⟨nd, rfl⟩⟩; refine ⟨_, rfl, ?_⟩))
   go_ret
   exact ⟨by first | rfl | (simp; done) | (simp [*]; done), by repeat (first | exact Drawn0.refl _ | apply Drawn0.step)⟩
 ·replace c5 := Bool.eq_false_iff.mpr c5
  subst c5
  have H1 : (if t139 = true then (some 1) else (if (Op.bytesLess a0.toList a1.toList) = true then (some (-1)) else (if a0.toList = a1.toList then (some 0) else (some 1)))) = some r := by rw [if_neg (show ¬ (false = true) by decide)] at H; exact H
  clear H
  have H := H1
  clear H1
  by_cases c7 : t139 = true
  ·subst c7
   have H1 : (some 1) = some r := by rw [if_pos rfl] at H; exact H
   clear H
   have H := H1
   clear H1
   obtain rfl := Option.some.inj H
   go_enter Try.func74, Try.ntmps74
   go_wp2_with (first | ((with_reducible refine gate_callee (f := 96) rfl ?_); refine gl_ (some 8) rfl Try.func96 #[.string a0] ?_; (with_reducible refine (cmp_isNaN_string.calls a0 false _ A3.out).mono ?_); rintro e w' ⟨rfl, ⟨nd, rfl⟩⟩; refine ⟨_, rfl, ?_⟩) | ((with_reducible refine gate_callee (f := 96) rfl ?_); refine gl_ (some 10) rfl Try.func96 #[.string a1] ?_; (with_reducible refine (cmp_isNaN_string.calls a1 true _ A4.out).mono ?_); rintro e w' ⟨rfl, ⟨nd, rfl⟩⟩; refine ⟨_, rfl, ?_⟩))
   go_ret
   exact ⟨by first | rfl | (simp; done) | (simp [*]; done), by repeat (first | exact Drawn0.refl _ | apply Drawn0.step)⟩
  ·replace c7 := Bool.eq_false_iff.mpr c7
   subst c7
   have H1 : (if (Op.bytesLess a0.toList a1.toList) = true then (some (-1)) else (if a0.toList = a1.toList then (some 0) else (some 1))) = some r := by rw [if_neg (show ¬ (false = true) by decide)] at H; exact H
   clear H
   have H := H1
   clear H1
   by_cases c8 : (Op.bytesLess a0.toList a1.toList) = true
   ·rw [if_pos c8] at H
    have c8b0 : (Op.bytesLess a0.toList a1.toList) = true := c8
    clear c8
    obtain rfl := Option.some.inj H
    go_enter Try.func74, Try.ntmps74
    go_wp2_with (first | ((with_reducible refine gate_callee (f := 96) rfl ?_); refine gl_ (some 8) rfl Try.func96 #[.string a0] ?_; (with_reducible refine (cmp_isNaN_string.calls a0 false _ A3.out).mono ?_); rintro e w' ⟨rfl, ⟨nd, rfl⟩⟩; refine ⟨_, rfl, ?_⟩) | ((with_reducible refine gate_callee (f := 96) rfl ?_); refine gl_ (some 10) rfl Try.func96 #[.string a1] ?_; (with_reducible refine (cmp_isNaN_string.calls a1 false _ A4.out).mono ?_); rintro e w' ⟨rfl, ⟨nd, rfl⟩⟩; refine ⟨_, rfl, ?_⟩))
    go_ret
    exact ⟨by first | rfl | (simp; done) | (simp [*]; done), by repeat (first | exact Drawn0.refl _ | apply Drawn0.step)⟩
   ·rw [if_neg c8] at H
    have c8b0 : (Op.bytesLess a0.toList a1.toList) = false := by simpa using c8
    clear c8
    by_cases c9 : a0.toList = a1.toList
    ·rw [if_pos c9] at H
     have c9b0 : (a0.toList == a1.toList) = true := beq_iff_eq.mpr c9
     have c9b1 : (a0.toList != a1.toList) = false := bne_eq_false_iff_eq.mpr c9
     clear c9
     obtain rfl := Option.some.inj H
     go_enter Try.func74, Try.ntmps74
     go_wp2_with (first | ((with_reducible refine gate_callee (f := 96) rfl ?_); refine gl_ (some 8) rfl Try.func96 #[.string a0] ?_; (with_reducible refine (cmp_isNaN_string.calls a0 false _ A3.out).mono ?_); rintro e w' ⟨rfl, ⟨nd, rfl⟩⟩; refine ⟨_, rfl, ?_⟩) | ((with_reducible refine gate_callee (f := 96) rfl ?_); refine gl_ (some 10) rfl Try.func96 #[.string a1] ?_; (with_reducible refine (cmp_isNaN_string.calls a1 false _ A4.out).mono ?_); rintro e w' ⟨rfl, ⟨nd, rfl⟩⟩; refine ⟨_, rfl, ?_⟩))
     go_ret
     exact ⟨by first | rfl | (simp; done) | (simp [*]; done), by repeat (first | exact Drawn0.refl _ | apply Drawn0.step)⟩
    ·rw [if_neg c9] at H
     have c9b0 : (a0.toList == a1.toList) = false := beq_eq_false_iff_ne.mpr c9
     have c9b1 : (a0.toList != a1.toList) = true := bne_iff_ne.mpr c9
     obtain rfl := Option.some.inj H
     go_enter Try.func74, Try.ntmps74
     go_wp2_with (first | ((with_reducible refine gate_callee (f := 96) rfl ?_); refine gl_ (some 8) rfl Try.func96 #[.string a0] ?_; (with_reducible refine (cmp_isNaN_string.calls a0 false _ A3.out).mono ?_); rintro e w' ⟨rfl, ⟨nd, rfl⟩⟩; refine ⟨_, rfl, ?_⟩) | ((with_reducible refine gate_callee (f := 96) rfl ?_); refine gl_ (some 10) rfl Try.func96 #[.string a1] ?_; (with_reducible refine (cmp_isNaN_string.calls a1 false _ A4.out).mono ?_); rintro e w' ⟨rfl, ⟨nd, rfl⟩⟩; refine ⟨_, rfl, ?_⟩))
     go_ret
     exact ⟨by first | rfl | (simp; done) | (simp [*]; done), by repeat (first | exact Drawn0.refl _ | apply Drawn0.step)⟩
end Go.Proofs.Ytdedmhmomoejkaa.X
namespace Go.Proofs.Ytdedmhmomoejkaa.X
open Go.RowKit Go.Proofs.YtdedmhmomoejkaaW.PrintWords Go.Proofs.YtdedmhmomoejkaaW.PrintLast Go.Proofs.YtdedmhmomoejkaaW.PrintMore
attribute [local go_sem] max2_int max_two
set_option linter.unusedVariables false
set_option linter.unusedSimpArgs false
def cell_Order.f (k : Nat) (a0_0 : Bool) (a0_1 : Int) (a0_2 : ByteArray) (a1_0 : Bool) (a1_1 : Int) (a1_2 : ByteArray) : Option (Int) := (cell_flag.f a0_0 a0_1 a0_2).bind fun t142 => ((cell_flag.f a1_0 a1_1 a1_2).bind fun t143 => ((cmp_Compare_int.f t142 t143).bind fun t144 => ((cmp_Compare_int64.f a0_1 a1_1).bind fun t145 => ((cmp_Compare_string.f a0_2 a1_2).bind fun t146 => ((cmp_Or_int.f k (([t144, t145, t146] : List Int))).bind fun t150 => (some t150))))))
theorem cell_Order.mono : ∀ a0 a1 a2 a3 a4 a5 k, LeO (cell_Order.f k a0 a1 a2 a3 a4 a5) (cell_Order.f (k + 1) a0 a1 a2 a3 a4 a5) := by
 intro a0 a1 a2 a3 a4 a5 k
 unfold cell_Order.f
 repeat' first
   | (with_reducible exact cmp_Or_int.mono _ _)
   | (with_reducible exact LeO.refl _)
   | (with_reducible exact LeO.none _)
   | (with_reducible refine LeO.ite ?_ ?_)
   | (with_reducible refine LeO.bind ?_ (fun _ => ?_))
   | exact cmp_Or_int.mono _ _
   | exact LeO.none _
   | refine LeO.ite ?_ ?_
   | refine LeO.bind ?_ (fun _ => ?_)
def cell_Order.T1 : Bool × List (List Nat × List Nat) := (true, [([], []), ([0], [0]), ([], []), ([2, 1], [2]), ([1, 3, 3], [1, 3]), ([], []), ([5], [5]), ([], []), ([7], [7]), ([6, 8, 4], [6, 8]), ([], []), ([10], [10]), ([], []), ([12], [12]), ([11, 13, 9], [11, 13]), ([4, 9, 14], [4, 9, 14]), ([15, 14], [15]), ([16, 16, 0, 1, 2, 3, 4, 5, 6, 7, 8, 9, 10, 11, 12, 13, 14, 15, 16], [16])])
def cell_Order.B1 : List Nat := [0, 1, 0, 7, 15, 0, 32, 0, 128, 511, 0, 1024, 0, 4096, 16383, 32767, 65535, 131071]
theorem cell_Order.tab1 : rtab .any (opsOf Try.f50 1) = cell_Order.T1 := by kernel_rfl
theorem cell_Order.bits1 : waitsOk cell_Order.T1.2 cell_Order.B1 = true := by kernel_rfl
set_option maxHeartbeats 8000000 in
set_option maxRecDepth 100000 in
theorem cell_Order.calls (k : Nat) (a0_0 : Bool) (a0_1 : Int) (a0_2 : ByteArray) (a1_0 : Bool) (a1_1 : Int) (a1_2 : ByteArray) (r : Int) (w : World) (h : cell_Order.f k a0_0 a0_1 a0_2 a1_0 a1_1 a1_2 = some r) :
  Calls Try.prog 50 #[.agg #[.bool a0_0, .int .i64 a0_1, .string a0_2], .agg #[.bool a1_0, .int .i64 a1_1, .string a1_2]] w fun e w' => e = .returned (.int .i64 r) ∧ Below w.heap.size w w' := by
 have hu24 := Try.underlying24
 have HB := Aside0.mk (Below.refl w.heap.size w)
 have H : ((cell_flag.f a0_0 a0_1 a0_2).bind fun t142 => ((cell_flag.f a1_0 a1_1 a1_2).bind fun t143 => ((cmp_Compare_int.f t142 t143).bind fun t144 => ((cmp_Compare_int64.f a0_1 a1_1).bind fun t145 => ((cmp_Compare_string.f a0_2 a1_2).bind fun t146 => ((cmp_Or_int.f k (([t144, t145, t146] : List Int))).bind fun t150 => (some t150))))))) = some r := h
 clear h
 replace H := Option.bind_eq_some_iff.mp H
 obtain ⟨t142, A30, H⟩ := H
 replace H : ((cell_flag.f a1_0 a1_1 a1_2).bind fun t143 => ((cmp_Compare_int.f t142 t143).bind fun t144 => ((cmp_Compare_int64.f a0_1 a1_1).bind fun t145 => ((cmp_Compare_string.f a0_2 a1_2).bind fun t146 => ((cmp_Or_int.f k (([t144, t145, t146] : List Int))).bind fun t150 => (some t150)))))) = some r := H
 have A3 := Aside0.mk A30
 clear A30
 replace H := Option.bind_eq_some_iff.mp H
 obtain ⟨t143, A40, H⟩ := H
 replace H : ((cmp_Compare_int.f t142 t143).bind fun t144 => ((cmp_Compare_int64.f a0_1 a1_1).bind fun t145 => ((cmp_Compare_string.f a0_2 a1_2).bind fun t146 => ((cmp_Or_int.f k (([t144, t145, t146] : List Int))).bind fun t150 => (some t150))))) = some r := H
 have A4 := Aside0.mk A40
 clear A40
 replace H := Option.bind_eq_some_iff.mp H
 obtain ⟨t144, A50, H⟩ := H
 replace H : ((cmp_Compare_int64.f a0_1 a1_1).bind fun t145 => ((cmp_Compare_string.f a0_2 a1_2).bind fun t146 => ((cmp_Or_int.f k (([t144, t145, t146] : List Int))).bind fun t150 => (some t150)))) = some r := H
 have A5 := Aside0.mk A50
 clear A50
 replace H := Option.bind_eq_some_iff.mp H
 obtain ⟨t145, A60, H⟩ := H
 replace H : ((cmp_Compare_string.f a0_2 a1_2).bind fun t146 => ((cmp_Or_int.f k (([t144, t145, t146] : List Int))).bind fun t150 => (some t150))) = some r := H
 have A6 := Aside0.mk A60
 clear A60
 replace H := Option.bind_eq_some_iff.mp H
 obtain ⟨t146, A70, H⟩ := H
 replace H : ((cmp_Or_int.f k (([t144, t145, t146] : List Int))).bind fun t150 => (some t150)) = some r := H
 have A7 := Aside0.mk A70
 clear A70
 obtain ⟨y147, hy147⟩ : ∃ y_ : List Int, y_ = (([t144, t145, t146] : List Int)) := ⟨_, rfl⟩
 replace H : ((cmp_Or_int.f k y147).bind fun t150 => (some t150)) = some r := by first | (rw [hy147]; with_reducible exact H) | (have H2_ := (Option.bind_some _ _).symm.trans H; rw [hy147]; with_reducible exact H2_) | (have H2_ := (Option.bind_some _ _).symm.trans H; with_reducible exact H2_) | with_reducible exact H | (rw [hy147]; exact H) | exact H
 have Ny147 := Aside0.mk hy147
 clear hy147
 replace H := Option.bind_eq_some_iff.mp H
 obtain ⟨t150, A80, H⟩ := H
 replace H : (some t150) = some r := H
 have A8 := Aside0.mk A80
 clear A80
 obtain rfl := Option.some.inj H
 go_enter Try.func50, Try.ntmps50
 try go_wp2_with (first | (refine bx_ (N := 2) (cs := #[.bool a0_0, .int .i64 a0_1, .string a0_2]) (t := 24) ?_; intro gb140 hg w9 hbox hb; have BK140 := Aside0.mk (hbox); have GW140 := ge_ HB hg; have GE140 := ge_ HB hg; replace HB := bs_ HB hb; clear hb hbox hg) | (refine bx_ (N := 3) (cs := #[.bool a1_0, .int .i64 a1_1, .string a1_2]) (t := 24) ?_; intro gb141 hg w10 hbox hb; have BK141 := Aside0.mk (hbox); have GW141 := ge_ HB hg; have GE141 := ge_ HB hg; have NB140_141 := lt_ BK140 hg; have NB141_140 := gt_ BK140 hg; replace BK140 := bk_ BK140 hb; replace HB := bs_ HB hb; clear hb hbox hg))
 replace BK140 := Aside0.mk (blk_drew BK140.out); replace BK141 := Aside0.mk (blk_drew BK141.out); replace HB := Aside0.mk (below_drew1 HB.out)
 refine start_ (n := 18) (S := fun w' => w'.cell? ⟨gb140, 0, none⟩ = some (.bool a0_0) ∧ w'.cell? ⟨gb140, 1, none⟩ = some (.int .i64 a0_1) ∧ w'.cell? ⟨gb140, 2, none⟩ = some (.string a0_2) ∧ w'.cell? ⟨gb141, 0, none⟩ = some (.bool a1_0) ∧ w'.cell? ⟨gb141, 1, none⟩ = some (.int .i64 a1_1) ∧ w'.cell? ⟨gb141, 2, none⟩ = some (.string a1_2)) (ds := []) #[false, false, false, false, false, false, false, false, false, false, false, false, false, false, false, false, false, false] (by kernel_rfl) rfl rfl ⟨(blk_cell BK140.out 0).trans rfl, (blk_cell BK140.out 1).trans rfl, (blk_cell BK140.out 2).trans rfl, (blk_cell BK141.out 0).trans rfl, (blk_cell BK141.out 1).trans rfl, (blk_cell BK141.out 2).trans rfl⟩ (fun hHeld => ?_); refine with_tabW cell_Order.tab1 cell_Order.bits1 (fun HT_ HW_ => ?_)
 generalize w10.drew = w11 at BK140 BK141 HB hHeld ⊢
 refine pu_ 5 (some 10) (bl_ 18 32) ?_
 refine pu_ 7 (some 12) (bl_ 18 160) ?_
 refine pu_ 10 (some 15) (bl_ 18 1184) ?_
 refine pu_ 12 (some 17) (bl_ 18 5280) ?_
 refine ta_ 0 (some 5) (bl_ 18 5281) hHeld ?_
 refine ta_ 2 (some 7) (bl_ 18 5285) hHeld ?_
 refine ta_ 6 (some 11) (bl_ 18 5349) hHeld ?_
 refine ta_ 8 (some 13) (bl_ 18 5605) hHeld ?_
 refine ta_ 11 (some 16) (bl_ 18 7653) hHeld ?_
 refine ta_ 13 (some 18) (bl_ 18 15845) hHeld ?_
 refine one_ (i := 1) (N := some 6) #[true, true, true, false, false, true, true, true, true, false, true, true, true, true, false, false, false, false] rfl rfl (one_of HT_.out (by kernel_rfl)) (by decide) (fun K hK => ?_)
 refine gs_ Try.func72 #[.agg #[.bool a0_0, .int .i64 a0_1, .string a0_2]] ?_
 with_reducible refine (cell_flag.calls a0_0 a0_1 a0_2 t142 _ A3.out).mono ?_
 rintro e w12 ⟨rfl, hb⟩
 refine ⟨_, rfl, ?_⟩
 replace BK140 := bk_ BK140 hb; replace BK141 := bk_ BK141 hb; replace HB := bs_ HB hb
 (try clear hb)
 (try clear hb2)
 (try clear hk)
 (try clear hi)
 refine hK.out _ _ ⟨(blk_cell BK140.out 0).trans rfl, (blk_cell BK140.out 1).trans rfl, (blk_cell BK140.out 2).trans rfl, (blk_cell BK141.out 0).trans rfl, (blk_cell BK141.out 1).trans rfl, (blk_cell BK141.out 2).trans rfl⟩ (fun hHeld => ?_)
 clear hK K
 refine norm_ (a' := ?_) ?_ ?_
 rotate_left
 ·show Act.put _ (some 6) _ = _
  simp only [Act.put, List.setIfInBounds_toArray, List.set_cons_zero, List.set_cons_succ, i64_w, i32_w]
  rfl
 refine one_ (i := 3) (N := some 8) #[true, true, true, true, false, true, true, true, true, false, true, true, true, true, false, false, false, false] rfl rfl (one_of HT_.out (by kernel_rfl)) (by decide) (fun K hK => ?_)
 refine gs_ Try.func72 #[.agg #[.bool a1_0, .int .i64 a1_1, .string a1_2]] ?_
 with_reducible refine (cell_flag.calls a1_0 a1_1 a1_2 t143 _ A4.out).mono ?_
 rintro e w13 ⟨rfl, hb⟩
 refine ⟨_, rfl, ?_⟩
 replace BK140 := bk_ BK140 hb; replace BK141 := bk_ BK141 hb; replace HB := bs_ HB hb
 (try clear hb)
 (try clear hb2)
 (try clear hk)
 (try clear hi)
 refine hK.out _ _ ⟨(blk_cell BK140.out 0).trans rfl, (blk_cell BK140.out 1).trans rfl, (blk_cell BK140.out 2).trans rfl, (blk_cell BK141.out 0).trans rfl, (blk_cell BK141.out 1).trans rfl, (blk_cell BK141.out 2).trans rfl⟩ (fun hHeld => ?_)
 clear hK K
 refine norm_ (a' := ?_) ?_ ?_
 rotate_left
 ·show Act.put _ (some 8) _ = _
  simp only [Act.put, List.setIfInBounds_toArray, List.set_cons_zero, List.set_cons_succ, i64_w, i32_w]
  rfl
 refine one_ (i := 4) (N := some 9) #[true, true, true, true, true, true, true, true, true, false, true, true, true, true, false, false, false, false] rfl rfl (one_of HT_.out (by kernel_rfl)) (by decide) (fun K hK => ?_)
 refine gs_ Try.func71 #[.int .i64 t142, .int .i64 t143] ?_
 with_reducible refine (cmp_Compare_int.calls t142 t143 t144 _ A5.out).mono ?_
 rintro e w' ⟨rfl, ⟨nd, rfl⟩⟩
 refine ⟨_, rfl, ?_⟩
 refine hK.out _ _ ⟨(blk_cell BK140.out 0).trans rfl, (blk_cell BK140.out 1).trans rfl, (blk_cell BK140.out 2).trans rfl, (blk_cell BK141.out 0).trans rfl, (blk_cell BK141.out 1).trans rfl, (blk_cell BK141.out 2).trans rfl⟩ (fun hHeld => ?_)
 clear hK K
 refine norm_ (a' := ?_) ?_ ?_
 rotate_left
 ·show Act.put _ (some 9) _ = _
  simp only [Act.put, List.setIfInBounds_toArray, List.set_cons_zero, List.set_cons_succ, i64_w, i32_w]
  rfl
 refine one_ (i := 9) (N := some 14) #[true, true, true, true, true, true, true, true, true, true, true, true, true, true, false, false, false, false] rfl rfl (one_of HT_.out (by kernel_rfl)) (by decide) (fun K hK => ?_)
 refine gs_ Try.func73 #[.int .i64 a0_1, .int .i64 a1_1] ?_
 with_reducible refine (cmp_Compare_int64.calls a0_1 a1_1 t145 _ A6.out).mono ?_
 rintro e w' ⟨rfl, ⟨nd, rfl⟩⟩
 refine ⟨_, rfl, ?_⟩
 refine hK.out _ _ ⟨(blk_cell BK140.out 0).trans rfl, (blk_cell BK140.out 1).trans rfl, (blk_cell BK140.out 2).trans rfl, (blk_cell BK141.out 0).trans rfl, (blk_cell BK141.out 1).trans rfl, (blk_cell BK141.out 2).trans rfl⟩ (fun hHeld => ?_)
 clear hK K
 refine norm_ (a' := ?_) ?_ ?_
 rotate_left
 ·show Act.put _ (some 14) _ = _
  simp only [Act.put, List.setIfInBounds_toArray, List.set_cons_zero, List.set_cons_succ, i64_w, i32_w]
  rfl
 refine one_ (i := 14) (N := some 19) #[true, true, true, true, true, true, true, true, true, true, true, true, true, true, true, false, false, false] rfl rfl (one_of HT_.out (by kernel_rfl)) (by decide) (fun K hK => ?_)
 refine gs_ Try.func74 #[.string a0_2, .string a1_2] ?_
 with_reducible refine (cmp_Compare_string.calls a0_2 a1_2 t146 _ A7.out).mono ?_
 rintro e w' ⟨rfl, ⟨nd, rfl⟩⟩
 refine ⟨_, rfl, ?_⟩
 refine hK.out _ _ ⟨(blk_cell BK140.out 0).trans rfl, (blk_cell BK140.out 1).trans rfl, (blk_cell BK140.out 2).trans rfl, (blk_cell BK141.out 0).trans rfl, (blk_cell BK141.out 1).trans rfl, (blk_cell BK141.out 2).trans rfl⟩ (fun hHeld => ?_)
 clear hK K
 refine norm_ (a' := ?_) ?_ ?_
 rotate_left
 ·show Act.put _ (some 19) _ = _
  simp only [Act.put, List.setIfInBounds_toArray, List.set_cons_zero, List.set_cons_succ, i64_w, i32_w]
  rfl
 refine one_ (i := 15) (N := some 20) #[true, true, true, true, true, true, true, true, true, true, true, true, true, true, true, true, false, false] rfl rfl (one_of HT_.out (by kernel_rfl)) (by decide) (fun K hK => ?_)
 refine Kd.R_lit_step (Kd.int .i64) _ 3 ?hg (N := 20) ?hd (xs := ([t144, t145, t146] : List Int)) (inner := [.int .i64 t144, .int .i64 t145, .int .i64 t146]) (ok := fun _ => True) (okp := fun _ => True) ?hr ?hp (fun _ hk => hk) trivial (Below.refl _ _) (Nat.le_refl _) (by simp) ?_; (case hd => rfl); (case hg => rfl); (case hr => first | (go_simp; done) | (go_simp; rfl)); (case hp => exact (Reps.one (show Kd.M (Kd.int .i64) _ _ _ t144 [.int .i64 t144] from rfl) (Reps.one (show Kd.M (Kd.int .i64) _ _ _ t145 [.int .i64 t145] from rfl) (Reps.one (show Kd.M (Kd.int .i64) _ _ _ t146 [.int .i64 t146] from rfl) (Reps.none _ _)))))
 intro v148 w14 ho15 hb hg_ hnew_
 clear hg_ hnew_
 (first | rw [← Ny147.out] at ho15 | (simp only [Int.reduceToNat] at ho15; rw [← Ny147.out] at ho15))
 have HO149 := Aside0.mk (Kd.R_lower ho15 (below_size (by repeat (first | (with_reducible first | exact HB.out | apply below_alloc | apply pw_below_drewN | apply below_drew1 | refine below_set ?_ GE140.out | refine below_set ?_ GE141.out) | exact HB.out)))); replace BK140 := bk_ BK140 hb; replace BK141 := bk_ BK141 hb; replace HB := bs_ HB hb
 clear hb ho15
 obtain ⟨Ao16, co16, eo16⟩ := Kd.R_slice HO149.out
 (first | subst eo16 | (injection eo16 with f1_ f2_ f3_; have f4_ := f1_.symm; have f5_ := f3_.symm; clear f1_ f2_ f3_; subst f4_; subst f5_))
 refine hK.out _ _ ⟨(blk_cell BK140.out 0).trans rfl, (blk_cell BK140.out 1).trans rfl, (blk_cell BK140.out 2).trans rfl, (blk_cell BK141.out 0).trans rfl, (blk_cell BK141.out 1).trans rfl, (blk_cell BK141.out 2).trans rfl⟩ (fun hHeld => ?_)
 clear hK K
 refine norm_ (a' := ?_) ?_ ?_
 rotate_left
 ·show Act.put _ (some 20) _ = _
  simp only [Act.put, List.setIfInBounds_toArray, List.set_cons_zero, List.set_cons_succ, i64_w, i32_w]
  rfl
 refine one_ (i := 16) (N := some 21) #[true, true, true, true, true, true, true, true, true, true, true, true, true, true, true, true, true, false] rfl rfl (one_of HT_.out (by kernel_rfl)) (by decide) (fun K hK => ?_)
 refine gs_ Try.func70 #[.slice Ao16 y147.length co16] ?_
 with_reducible refine (cmp_Or_int.calls k _ _ y147 t150 _ ?side1 ?side2 A8.out).mono ?_
 (case side1 => repeat (first | exact (Kd.R_reads' HO149.out).2.2 | (with_reducible refine Kd.C_alloc ?_ _) | (with_reducible refine Kd.C_drewN ?_ _) | (with_reducible refine Kd.C_drew ?_)))
 (case side2 => exact (Kd.R_reads' HO149.out).2.1)
 rintro e w' ⟨rfl, ⟨nd, rfl⟩⟩
 refine ⟨_, rfl, ?_⟩
 refine hK.out _ _ ⟨(blk_cell BK140.out 0).trans rfl, (blk_cell BK140.out 1).trans rfl, (blk_cell BK140.out 2).trans rfl, (blk_cell BK141.out 0).trans rfl, (blk_cell BK141.out 1).trans rfl, (blk_cell BK141.out 2).trans rfl⟩ (fun hHeld => ?_)
 clear hK K
 refine norm_ (a' := ?_) ?_ ?_
 rotate_left
 ·show Act.put _ (some 21) _ = _
  simp only [Act.put, List.setIfInBounds_toArray, List.set_cons_zero, List.set_cons_succ, i64_w, i32_w]
  rfl
 refine pu_ 17 (some 4) (bl_ 18 262143) ?_
 refine done_ (done_of HT_.out (by kernel_rfl)) ?_
 try go_wp2
 go_ret
 exact en_ HB
end Go.Proofs.Ytdedmhmomoejkaa.X
namespace Go.Proofs.Ytdedmhmomoejkaa.X
open Go.RowKit Go.Proofs.YtdedmhmomoejkaaW.PrintWords Go.Proofs.YtdedmhmomoejkaaW.PrintLast Go.Proofs.YtdedmhmomoejkaaW.PrintMore
attribute [local go_sem] max2_int max_two
set_option linter.unusedVariables false
set_option linter.unusedSimpArgs false
attribute [local go_sem high] eqA24
mutual
def zone_May.j0 : Nat → Int → Bool → Int → Int → Bool → Int → ByteArray → Bool → Int → ByteArray → Option (Bool)
 | 0, _, _, _, _, _, _, _, _, _, _ => none
 | k + 1, x0, x5, x152000, x152001, x152002, x152003, x152004, x152005, x152006, x152007 => if x5 = true then (some false) else (if x152000 < 0 then (zone_May.j1 k x0 true x152000 x152001 x152002 x152003 x152004 x152005 x152006 x152007) else (if x152000 > 4096 then (zone_May.j1 k x0 true x152000 x152001 x152002 x152003 x152004 x152005 x152006 x152007) else (if x152001 < 0 then (zone_May.j1 k x0 true x152000 x152001 x152002 x152003 x152004 x152005 x152006 x152007) else (zone_May.j1 k x0 (decide (x152001 > x152000)) x152000 x152001 x152002 x152003 x152004 x152005 x152006 x152007))))
def zone_May.j1 : Nat → Int → Bool → Int → Int → Bool → Int → ByteArray → Bool → Int → ByteArray → Option (Bool)
 | 0, _, _, _, _, _, _, _, _, _, _ => none
 | k + 1, x0, x12, x152000, x152001, x152002, x152003, x152004, x152005, x152006, x152007 => if x12 = true then (some false) else ((zone_some.f x152000 x152001 x152002 x152003 x152004 x152005 x152006 x152007).bind fun t152 => (if t152 = true then ((cell_May.f x0 false x152002 x152003 x152004).bind fun t153 => (if t153 = true then ((cell_May.f x0 false x152005 x152006 x152007).bind fun t154 => (if t154 = true then ((cell_Order.f k x152002 x152003 x152004 x152005 x152006 x152007).bind fun t155 => (some (decide (t155 ≤ 0)))) else (some false))) else (some false))) else (if (!x152002 && (x152003 == 0 && (x152004.toList.isEmpty))) = true then (some (!x152005 && (x152006 == 0 && (x152007.toList.isEmpty)))) else (some false))))
end
def zone_May.f (k : Nat) (a0 : Int) (a1_0 : Int) (a1_1 : Int) (a1_2 : Bool) (a1_3 : Int) (a1_4 : ByteArray) (a1_5 : Bool) (a1_6 : Int) (a1_7 : ByteArray) : Option (Bool) := if a0 < 1 then (zone_May.j0 k a0 true a1_0 a1_1 a1_2 a1_3 a1_4 a1_5 a1_6 a1_7) else (zone_May.j0 k a0 (decide (a0 > 3)) a1_0 a1_1 a1_2 a1_3 a1_4 a1_5 a1_6 a1_7)
theorem zone_May.mono_l : ∀ k, (∀ y0 y1 y2 y3 y4 y5 y6 y7 y8 y9, LeO (zone_May.j0 k y0 y1 y2 y3 y4 y5 y6 y7 y8 y9) (zone_May.j0 (k + 1) y0 y1 y2 y3 y4 y5 y6 y7 y8 y9)) ∧ (∀ y0 y1 y2 y3 y4 y5 y6 y7 y8 y9, LeO (zone_May.j1 k y0 y1 y2 y3 y4 y5 y6 y7 y8 y9) (zone_May.j1 (k + 1) y0 y1 y2 y3 y4 y5 y6 y7 y8 y9))
 | 0 => ⟨fun _ _ _ _ _ _ _ _ _ _ r h => by simp [zone_May.j0] at h, fun _ _ _ _ _ _ _ _ _ _ r h => by simp [zone_May.j1] at h⟩
 | k + 1 => by
  obtain ⟨ih0, ih1⟩ := zone_May.mono_l k
  refine ⟨?_, ?_⟩
  ·intro y0 y1 y2 y3 y4 y5 y6 y7 y8 y9
   unfold zone_May.j0
   repeat' first
   | (with_reducible exact ih0 _ _ _ _ _ _ _ _ _ _)
   | (with_reducible exact ih1 _ _ _ _ _ _ _ _ _ _)
   | (with_reducible exact cell_Order.mono _ _ _ _ _ _ _)
   | (with_reducible exact LeO.refl _)
   | (with_reducible exact LeO.none _)
   | (with_reducible refine LeO.ite ?_ ?_)
   | (with_reducible refine LeO.bind ?_ (fun _ => ?_))
   | exact ih0 _ _ _ _ _ _ _ _ _ _
   | exact ih1 _ _ _ _ _ _ _ _ _ _
   | exact cell_Order.mono _ _ _ _ _ _ _
   | exact LeO.none _
   | refine LeO.ite ?_ ?_
   | refine LeO.bind ?_ (fun _ => ?_)
  ·intro y0 y1 y2 y3 y4 y5 y6 y7 y8 y9
   unfold zone_May.j1
   repeat' first
   | (with_reducible exact ih0 _ _ _ _ _ _ _ _ _ _)
   | (with_reducible exact ih1 _ _ _ _ _ _ _ _ _ _)
   | (with_reducible exact cell_Order.mono _ _ _ _ _ _ _)
   | (with_reducible exact LeO.refl _)
   | (with_reducible exact LeO.none _)
   | (with_reducible refine LeO.ite ?_ ?_)
   | (with_reducible refine LeO.bind ?_ (fun _ => ?_))
   | exact ih0 _ _ _ _ _ _ _ _ _ _
   | exact ih1 _ _ _ _ _ _ _ _ _ _
   | exact cell_Order.mono _ _ _ _ _ _ _
   | exact LeO.none _
   | refine LeO.ite ?_ ?_
   | refine LeO.bind ?_ (fun _ => ?_)
theorem zone_May.mono : ∀ a0 a1 a2 a3 a4 a5 a6 a7 a8 k, LeO (zone_May.f k a0 a1 a2 a3 a4 a5 a6 a7 a8) (zone_May.f (k + 1) a0 a1 a2 a3 a4 a5 a6 a7 a8) := by
 intro a0 a1 a2 a3 a4 a5 a6 a7 a8 k
 obtain ⟨ih0, ih1⟩ := zone_May.mono_l k
 unfold zone_May.f
 repeat' first
   | (with_reducible exact ih0 _ _ _ _ _ _ _ _ _ _)
   | (with_reducible exact ih1 _ _ _ _ _ _ _ _ _ _)
   | (with_reducible exact cell_Order.mono _ _ _ _ _ _ _)
   | (with_reducible exact LeO.refl _)
   | (with_reducible exact LeO.none _)
   | (with_reducible refine LeO.ite ?_ ?_)
   | (with_reducible refine LeO.bind ?_ (fun _ => ?_))
   | exact ih0 _ _ _ _ _ _ _ _ _ _
   | exact ih1 _ _ _ _ _ _ _ _ _ _
   | exact cell_Order.mono _ _ _ _ _ _ _
   | exact LeO.none _
   | refine LeO.ite ?_ ?_
   | refine LeO.bind ?_ (fun _ => ?_)
set_option maxHeartbeats 8000000 in
set_option maxRecDepth 100000 in
theorem zone_May.calls (k : Nat) (a0 : Int) (a1_0 : Int) (a1_1 : Int) (a1_2 : Bool) (a1_3 : Int) (a1_4 : ByteArray) (a1_5 : Bool) (a1_6 : Int) (a1_7 : ByteArray) (r : Bool) (w : World) (h : zone_May.f k a0 a1_0 a1_1 a1_2 a1_3 a1_4 a1_5 a1_6 a1_7 = some r) :
  Calls Try.prog 28 #[.int .i64 a0, .agg #[.int .i64 a1_0, .int .i64 a1_1, .bool a1_2, .int .i64 a1_3, .string a1_4, .bool a1_5, .int .i64 a1_6, .string a1_7]] w fun e w' => e = .returned (.bool r) ∧ Below w.heap.size w w' := by
 have hu33 := Try.underlying33
 have hu24 := Try.underlying24
 have HB := Aside0.mk (Below.refl w.heap.size w)
 have H : (if a0 < 1 then (zone_May.j0 k a0 true a1_0 a1_1 a1_2 a1_3 a1_4 a1_5 a1_6 a1_7) else (zone_May.j0 k a0 (decide (a0 > 3)) a1_0 a1_1 a1_2 a1_3 a1_4 a1_5 a1_6 a1_7)) = some r := h
 clear h
 have HC3 := Aside0.mk H
 clear H
 go_enter Try.func28, Try.ntmps28
 go_upto_region 1 with (first | (refine bx_ (N := 3) (cs := #[.int .i64 a1_0, .int .i64 a1_1, .bool a1_2, .int .i64 a1_3, .string a1_4, .bool a1_5, .int .i64 a1_6, .string a1_7]) (t := 33) ?_; intro gb151 hg w4 hbox hb; have BK151 := Aside0.mk (hbox); have GW151 := ge_ HB hg; have GE151 := ge_ HB hg; replace HB := bs_ HB hb; clear hb hbox hg))
 (try simp only [Act.put, List.setIfInBounds_toArray, List.set_cons_zero, List.set_cons_succ])
 go_cut [5] (fun v5 wc => ∃ (kq : Nat) (x5_2 : Bool), v5 = .bool x5_2 ∧ Aside0 (zone_May.j0 kq a0 x5_2 a1_0 a1_1 a1_2 a1_3 a1_4 a1_5 a1_6 a1_7 = some r) ∧ Aside0 (kq ≤ k) ∧ Aside0 (wc.heap[gb151]? = some (.cells #[.int .i64 a1_0, .int .i64 a1_1, .bool a1_2, .int .i64 a1_3, .string a1_4, .bool a1_5, .int .i64 a1_6, .string a1_7] 33 (0, 0))) ∧ Aside0 (Below w.heap.size w wc))
 case first =>
  have H := HC3.out
  clear HC3
  by_cases c5 : a0 < 1
  ·rw [if_pos c5] at H
   have c5b0 : decide (a0 < 1) = true := decide_eq_true c5
   clear c5
   (first | rw [c5b0] | (simp only [i64_w, i32_w]; rw [c5b0]) | skip)
   have H' := Aside0.mk H
   clear H
   go_wp2
   go_meet
   case rel => exact ⟨_, (true), (by first | rfl | (simp; done) | (simp [*]; done)), H', ⟨by first | omega | exact Nat.le_refl _⟩, ⟨by (with_reducible repeat (first | refine blk_drewN ?_ _ | refine blk_drew ?_ | refine blk_alloc ?_ _)); exact BK151.out⟩, ⟨by repeat (first | (with_reducible first | exact HB.out | apply below_alloc | apply pw_below_drewN | apply below_drew1 | refine below_set ?_ GE151.out) | exact HB.out)⟩⟩
  ·rw [if_neg c5] at H
   have c5b0 : decide (a0 < 1) = false := decide_eq_false c5
   clear c5
   (first | rw [c5b0] | (simp only [i64_w, i32_w]; rw [c5b0]) | skip)
   have H' := Aside0.mk H
   clear H
   go_wp2
   go_meet
   case rel => exact ⟨_, (decide (a0 > 3)), (by first | rfl | (simp; done) | (simp [*]; done)), H', ⟨by first | omega | exact Nat.le_refl _⟩, ⟨by (with_reducible repeat (first | refine blk_drewN ?_ _ | refine blk_drew ?_ | refine blk_alloc ?_ _)); exact BK151.out⟩, ⟨by repeat (first | (with_reducible first | exact HB.out | apply below_alloc | apply pw_below_drewN | apply below_drew1 | refine below_set ?_ GE151.out) | exact HB.out)⟩⟩
 case rest =>
  clear HC3
  try clear c2
  try clear p2
  try clear c5
  try clear c5b0
  obtain ⟨kq, x5_2, rfl, HA, HJ2, BK151, HB⟩ := hcut
  cases kq with
  | zero => exact absurd HA.out (by simp [zone_May.j0])
  | succ kj2 =>
   have H := HA.out
   clear HA
   simp only [zone_May.j0] at H
   by_cases c6 : x5_2 = true
   ·subst c6
    have H1 : (some false) = some r := by rw [if_pos rfl] at H; exact H
    clear H
    have H := H1
    clear H1
    obtain rfl := Option.some.inj H
    go_wp2
    go_ret
    exact en_ HB
   ·replace c6 := Bool.eq_false_iff.mpr c6
    subst c6
    have H1 : (if a1_0 < 0 then (zone_May.j1 kj2 a0 true a1_0 a1_1 a1_2 a1_3 a1_4 a1_5 a1_6 a1_7) else (if a1_0 > 4096 then (zone_May.j1 kj2 a0 true a1_0 a1_1 a1_2 a1_3 a1_4 a1_5 a1_6 a1_7) else (if a1_1 < 0 then (zone_May.j1 kj2 a0 true a1_0 a1_1 a1_2 a1_3 a1_4 a1_5 a1_6 a1_7) else (zone_May.j1 kj2 a0 (decide (a1_1 > a1_0)) a1_0 a1_1 a1_2 a1_3 a1_4 a1_5 a1_6 a1_7)))) = some r := by rw [if_neg (show ¬ (false = true) by decide)] at H; exact H
    clear H
    have H := H1
    clear H1
    have HC7 := Aside0.mk H
    clear H
    go_upto_region 3 with (fail)
    go_cut [12] (fun v12 wc => ∃ (kq : Nat) (x12_6 : Bool), v12 = .bool x12_6 ∧ Aside0 (zone_May.j1 kq a0 x12_6 a1_0 a1_1 a1_2 a1_3 a1_4 a1_5 a1_6 a1_7 = some r) ∧ Aside0 (kq ≤ kj2) ∧ Aside0 (wc.heap[gb151]? = some (.cells #[.int .i64 a1_0, .int .i64 a1_1, .bool a1_2, .int .i64 a1_3, .string a1_4, .bool a1_5, .int .i64 a1_6, .string a1_7] 33 (0, 0))) ∧ Aside0 (Below w.heap.size w wc))
    case first =>
     have H := HC7.out
     clear HC7
     by_cases c8 : a1_0 < 0
     ·rw [if_pos c8] at H
      have c8b0 : decide (a1_0 < 0) = true := decide_eq_true c8
      clear c8
      (first | rw [c8b0] | (simp only [i64_w, i32_w]; rw [c8b0]) | skip)
      have H' := Aside0.mk H
      clear H
      obtain ⟨C9_0, C9_1, C9_2, C9_3, C9_4, C9_5, C9_6, C9_7⟩ := cz8_ BK151.out
      obtain ⟨F9_0, F9_1, F9_2, F9_3, F9_4, F9_5, F9_6, F9_7⟩ := fz8_ BK151.out
      go_wp2
      go_meet
      case rel => exact ⟨_, (true), (by first | rfl | (simp; done) | (simp [*]; done)), H', ⟨by have := HJ2.out; first | omega | exact Nat.le_refl _⟩, ⟨by (with_reducible repeat (first | refine blk_drewN ?_ _ | refine blk_drew ?_ | refine blk_alloc ?_ _)); exact BK151.out⟩, ⟨by repeat (first | (with_reducible first | exact HB.out | apply below_alloc | apply pw_below_drewN | apply below_drew1 | refine below_set ?_ GE151.out) | exact HB.out)⟩⟩
     ·rw [if_neg c8] at H
      have c8b0 : decide (a1_0 < 0) = false := decide_eq_false c8
      clear c8
      (first | rw [c8b0] | (simp only [i64_w, i32_w]; rw [c8b0]) | skip)
      by_cases c10 : a1_0 > 4096
      ·rw [if_pos c10] at H
       have c10b0 : decide (4096 < a1_0) = true := decide_eq_true c10
       clear c10
       have H' := Aside0.mk H
       clear H
       obtain ⟨C11_0, C11_1, C11_2, C11_3, C11_4, C11_5, C11_6, C11_7⟩ := cz8_ BK151.out
       obtain ⟨F11_0, F11_1, F11_2, F11_3, F11_4, F11_5, F11_6, F11_7⟩ := fz8_ BK151.out
       go_wp2
       go_meet
       case rel => exact ⟨_, (true), (by first | rfl | (simp; done) | (simp [*]; done)), H', ⟨by have := HJ2.out; first | omega | exact Nat.le_refl _⟩, ⟨by (with_reducible repeat (first | refine blk_drewN ?_ _ | refine blk_drew ?_ | refine blk_alloc ?_ _)); exact BK151.out⟩, ⟨by repeat (first | (with_reducible first | exact HB.out | apply below_alloc | apply pw_below_drewN | apply below_drew1 | refine below_set ?_ GE151.out) | exact HB.out)⟩⟩
      ·rw [if_neg c10] at H
       have c10b0 : decide (4096 < a1_0) = false := decide_eq_false c10
       clear c10
       by_cases c12 : a1_1 < 0
       ·rw [if_pos c12] at H
        have c12b0 : decide (a1_1 < 0) = true := decide_eq_true c12
        clear c12
        have H' := Aside0.mk H
        clear H
        obtain ⟨C13_0, C13_1, C13_2, C13_3, C13_4, C13_5, C13_6, C13_7⟩ := cz8_ BK151.out
        obtain ⟨F13_0, F13_1, F13_2, F13_3, F13_4, F13_5, F13_6, F13_7⟩ := fz8_ BK151.out
        go_wp2
        go_meet
        case rel => exact ⟨_, (true), (by first | rfl | (simp; done) | (simp [*]; done)), H', ⟨by have := HJ2.out; first | omega | exact Nat.le_refl _⟩, ⟨by (with_reducible repeat (first | refine blk_drewN ?_ _ | refine blk_drew ?_ | refine blk_alloc ?_ _)); exact BK151.out⟩, ⟨by repeat (first | (with_reducible first | exact HB.out | apply below_alloc | apply pw_below_drewN | apply below_drew1 | refine below_set ?_ GE151.out) | exact HB.out)⟩⟩
       ·rw [if_neg c12] at H
        have c12b0 : decide (a1_1 < 0) = false := decide_eq_false c12
        clear c12
        have H' := Aside0.mk H
        clear H
        obtain ⟨C14_0, C14_1, C14_2, C14_3, C14_4, C14_5, C14_6, C14_7⟩ := cz8_ BK151.out
        obtain ⟨F14_0, F14_1, F14_2, F14_3, F14_4, F14_5, F14_6, F14_7⟩ := fz8_ BK151.out
        go_wp2
        go_meet
        case rel => exact ⟨_, (decide (a1_1 > a1_0)), (by first | rfl | (simp; done) | (simp [*]; done)), H', ⟨by have := HJ2.out; first | omega | exact Nat.le_refl _⟩, ⟨by (with_reducible repeat (first | refine blk_drewN ?_ _ | refine blk_drew ?_ | refine blk_alloc ?_ _)); exact BK151.out⟩, ⟨by repeat (first | (with_reducible first | exact HB.out | apply below_alloc | apply pw_below_drewN | apply below_drew1 | refine below_set ?_ GE151.out) | exact HB.out)⟩⟩
    case rest =>
     clear HC7
     try clear c1
     try clear c2
     try clear p2
     try clear c5
     try clear c5b0
     try clear c6
     try clear c8
     try clear c8b0
     try clear c10
     try clear c10b0
     try clear c12
     try clear c12b0
     try clear C11_0 C11_1 C11_2 C11_3 C11_4 C11_5 C11_6 C11_7
     try clear C13_0 C13_1 C13_2 C13_3 C13_4 C13_5 C13_6 C13_7
     try clear C14_0 C14_1 C14_2 C14_3 C14_4 C14_5 C14_6 C14_7
     try clear C9_0 C9_1 C9_2 C9_3 C9_4 C9_5 C9_6 C9_7
     try clear F11_0 F11_1 F11_2 F11_3 F11_4 F11_5 F11_6 F11_7
     try clear F13_0 F13_1 F13_2 F13_3 F13_4 F13_5 F13_6 F13_7
     try clear F14_0 F14_1 F14_2 F14_3 F14_4 F14_5 F14_6 F14_7
     try clear F9_0 F9_1 F9_2 F9_3 F9_4 F9_5 F9_6 F9_7
     try clear p2
     obtain ⟨kq, x12_6, rfl, HA, HJ6, BK151, HB⟩ := hcut
     cases kq with
     | zero => exact absurd HA.out (by simp [zone_May.j1])
     | succ kj6 =>
      have H := HA.out
      clear HA
      simp only [zone_May.j1] at H
      by_cases c15 : x12_6 = true
      ·subst c15
       have H1 : (some false) = some r := by rw [if_pos rfl] at H; exact H
       clear H
       have H := H1
       clear H1
       obtain rfl := Option.some.inj H
       go_wp2
       go_ret
       exact en_ HB
      ·replace c15 := Bool.eq_false_iff.mpr c15
       subst c15
       have H1 : ((zone_some.f a1_0 a1_1 a1_2 a1_3 a1_4 a1_5 a1_6 a1_7).bind fun t152 => (if t152 = true then ((cell_May.f a0 false a1_2 a1_3 a1_4).bind fun t153 => (if t153 = true then ((cell_May.f a0 false a1_5 a1_6 a1_7).bind fun t154 => (if t154 = true then ((cell_Order.f kj6 a1_2 a1_3 a1_4 a1_5 a1_6 a1_7).bind fun t155 => (some (decide (t155 ≤ 0)))) else (some false))) else (some false))) else (if (!a1_2 && (a1_3 == 0 && (a1_4.toList.isEmpty))) = true then (some (!a1_5 && (a1_6 == 0 && (a1_7.toList.isEmpty)))) else (some false)))) = some r := by rw [if_neg (show ¬ (false = true) by decide)] at H; exact H
       clear H
       have H := H1
       clear H1
       replace H := Option.bind_eq_some_iff.mp H
       obtain ⟨t152, A160, H⟩ := H
       replace H : (if t152 = true then ((cell_May.f a0 false a1_2 a1_3 a1_4).bind fun t153 => (if t153 = true then ((cell_May.f a0 false a1_5 a1_6 a1_7).bind fun t154 => (if t154 = true then ((cell_Order.f kj6 a1_2 a1_3 a1_4 a1_5 a1_6 a1_7).bind fun t155 => (some (decide (t155 ≤ 0)))) else (some false))) else (some false))) else (if (!a1_2 && (a1_3 == 0 && (a1_4.toList.isEmpty))) = true then (some (!a1_5 && (a1_6 == 0 && (a1_7.toList.isEmpty)))) else (some false))) = some r := H
       have A16 := Aside0.mk A160
       clear A160
       by_cases c17 : t152 = true
       ·subst c17
        have H1 : ((cell_May.f a0 false a1_2 a1_3 a1_4).bind fun t153 => (if t153 = true then ((cell_May.f a0 false a1_5 a1_6 a1_7).bind fun t154 => (if t154 = true then ((cell_Order.f kj6 a1_2 a1_3 a1_4 a1_5 a1_6 a1_7).bind fun t155 => (some (decide (t155 ≤ 0)))) else (some false))) else (some false))) = some r := by rw [if_pos rfl] at H; exact H
        clear H
        have H := H1
        clear H1
        replace H := Option.bind_eq_some_iff.mp H
        obtain ⟨t153, A180, H⟩ := H
        replace H : (if t153 = true then ((cell_May.f a0 false a1_5 a1_6 a1_7).bind fun t154 => (if t154 = true then ((cell_Order.f kj6 a1_2 a1_3 a1_4 a1_5 a1_6 a1_7).bind fun t155 => (some (decide (t155 ≤ 0)))) else (some false))) else (some false)) = some r := H
        have A18 := Aside0.mk A180
        clear A180
        by_cases c19 : t153 = true
        ·subst c19
         have H1 : ((cell_May.f a0 false a1_5 a1_6 a1_7).bind fun t154 => (if t154 = true then ((cell_Order.f kj6 a1_2 a1_3 a1_4 a1_5 a1_6 a1_7).bind fun t155 => (some (decide (t155 ≤ 0)))) else (some false))) = some r := by rw [if_pos rfl] at H; exact H
         clear H
         have H := H1
         clear H1
         replace H := Option.bind_eq_some_iff.mp H
         obtain ⟨t154, A200, H⟩ := H
         replace H : (if t154 = true then ((cell_Order.f kj6 a1_2 a1_3 a1_4 a1_5 a1_6 a1_7).bind fun t155 => (some (decide (t155 ≤ 0)))) else (some false)) = some r := H
         have A20 := Aside0.mk A200
         clear A200
         by_cases c21 : t154 = true
         ·subst c21
          have H1 : ((cell_Order.f kj6 a1_2 a1_3 a1_4 a1_5 a1_6 a1_7).bind fun t155 => (some (decide (t155 ≤ 0)))) = some r := by rw [if_pos rfl] at H; exact H
          clear H
          have H := H1
          clear H1
          replace H := Option.bind_eq_some_iff.mp H
          obtain ⟨t155, A220, H⟩ := H
          replace H : (some (decide (t155 ≤ 0))) = some r := H
          have A22 := Aside0.mk A220
          clear A220
          obtain rfl := Option.some.inj H
          obtain ⟨C23_0, C23_1, C23_2, C23_3, C23_4, C23_5, C23_6, C23_7⟩ := cz8_ BK151.out
          obtain ⟨F23_0, F23_1, F23_2, F23_3, F23_4, F23_5, F23_6, F23_7⟩ := fz8_ BK151.out
          go_wp2_with (first | ((with_reducible refine gate_callee (f := 48) rfl ?_); refine gl_ (some 35) rfl Try.func48 #[.agg #[.int .i64 a1_0, .int .i64 a1_1, .bool a1_2, .int .i64 a1_3, .string a1_4, .bool a1_5, .int .i64 a1_6, .string a1_7]] ?_; (with_reducible refine (zone_some.calls a1_0 a1_1 a1_2 a1_3 a1_4 a1_5 a1_6 a1_7 true _ A16.out).mono ?_); rintro e w24 ⟨rfl, hb⟩; refine ⟨_, rfl, ?_⟩;  replace BK151 := bk_ BK151 hb; replace HB := bs_ HB hb; (try clear hb); obtain ⟨C25_0, C25_1, C25_2, C25_3, C25_4, C25_5, C25_6, C25_7⟩ := zc8_ BK151.out; obtain ⟨F25_0, F25_1, F25_2, F25_3, F25_4, F25_5, F25_6, F25_7⟩ := zf8_ BK151.out) | ((with_reducible refine gate_callee (f := 49) rfl ?_); refine gl_ (some 50) rfl Try.func49 #[.int .i64 a0, .bool false, .agg #[.bool a1_2, .int .i64 a1_3, .string a1_4]] ?_; (with_reducible refine (cell_May.calls a0 false a1_2 a1_3 a1_4 true _ A18.out).mono ?_); rintro e w26 ⟨rfl, hb⟩; refine ⟨_, rfl, ?_⟩;  replace BK151 := bk_ BK151 hb; replace HB := bs_ HB hb; (try clear hb); obtain ⟨C27_0, C27_1, C27_2, C27_3, C27_4, C27_5, C27_6, C27_7⟩ := zc8_ BK151.out; obtain ⟨F27_0, F27_1, F27_2, F27_3, F27_4, F27_5, F27_6, F27_7⟩ := zf8_ BK151.out) | (go_at_call 49; (with_reducible refine (cell_May.calls a0 false a1_5 a1_6 a1_7 true _ A20.out).mono ?_); rintro e w28 ⟨rfl, hb⟩;  replace BK151 := bk_ BK151 hb; replace HB := bs_ HB hb; (try clear hb); obtain ⟨C29_0, C29_1, C29_2, C29_3, C29_4, C29_5, C29_6, C29_7⟩ := zc8_ BK151.out; obtain ⟨F29_0, F29_1, F29_2, F29_3, F29_4, F29_5, F29_6, F29_7⟩ := zf8_ BK151.out) | (go_at_call 50; (with_reducible refine (cell_Order.calls kj6 a1_2 a1_3 a1_4 a1_5 a1_6 a1_7 t155 _ A22.out).mono ?_); rintro e w30 ⟨rfl, hb⟩;  replace BK151 := bk_ BK151 hb; replace HB := bs_ HB hb; (try clear hb)))
          go_ret
          exact en_ HB
         ·replace c21 := Bool.eq_false_iff.mpr c21
          subst c21
          have H1 : (some false) = some r := by rw [if_neg (show ¬ (false = true) by decide)] at H; exact H
          clear H
          have H := H1
          clear H1
          obtain rfl := Option.some.inj H
          obtain ⟨C31_0, C31_1, C31_2, C31_3, C31_4, C31_5, C31_6, C31_7⟩ := cz8_ BK151.out
          obtain ⟨F31_0, F31_1, F31_2, F31_3, F31_4, F31_5, F31_6, F31_7⟩ := fz8_ BK151.out
          go_wp2_with (first | ((with_reducible refine gate_callee (f := 48) rfl ?_); refine gl_ (some 35) rfl Try.func48 #[.agg #[.int .i64 a1_0, .int .i64 a1_1, .bool a1_2, .int .i64 a1_3, .string a1_4, .bool a1_5, .int .i64 a1_6, .string a1_7]] ?_; (with_reducible refine (zone_some.calls a1_0 a1_1 a1_2 a1_3 a1_4 a1_5 a1_6 a1_7 true _ A16.out).mono ?_); rintro e w32 ⟨rfl, hb⟩; refine ⟨_, rfl, ?_⟩;  replace BK151 := bk_ BK151 hb; replace HB := bs_ HB hb; (try clear hb); obtain ⟨C33_0, C33_1, C33_2, C33_3, C33_4, C33_5, C33_6, C33_7⟩ := zc8_ BK151.out; obtain ⟨F33_0, F33_1, F33_2, F33_3, F33_4, F33_5, F33_6, F33_7⟩ := zf8_ BK151.out) | ((with_reducible refine gate_callee (f := 49) rfl ?_); refine gl_ (some 50) rfl Try.func49 #[.int .i64 a0, .bool false, .agg #[.bool a1_2, .int .i64 a1_3, .string a1_4]] ?_; (with_reducible refine (cell_May.calls a0 false a1_2 a1_3 a1_4 true _ A18.out).mono ?_); rintro e w34 ⟨rfl, hb⟩; refine ⟨_, rfl, ?_⟩;  replace BK151 := bk_ BK151 hb; replace HB := bs_ HB hb; (try clear hb); obtain ⟨C35_0, C35_1, C35_2, C35_3, C35_4, C35_5, C35_6, C35_7⟩ := zc8_ BK151.out; obtain ⟨F35_0, F35_1, F35_2, F35_3, F35_4, F35_5, F35_6, F35_7⟩ := zf8_ BK151.out) | (go_at_call 49; (with_reducible refine (cell_May.calls a0 false a1_5 a1_6 a1_7 false _ A20.out).mono ?_); rintro e w36 ⟨rfl, hb⟩;  replace BK151 := bk_ BK151 hb; replace HB := bs_ HB hb; (try clear hb)))
          go_ret
          exact en_ HB
        ·replace c19 := Bool.eq_false_iff.mpr c19
         subst c19
         have H1 : (some false) = some r := by rw [if_neg (show ¬ (false = true) by decide)] at H; exact H
         clear H
         have H := H1
         clear H1
         obtain rfl := Option.some.inj H
         obtain ⟨C37_0, C37_1, C37_2, C37_3, C37_4, C37_5, C37_6, C37_7⟩ := cz8_ BK151.out
         obtain ⟨F37_0, F37_1, F37_2, F37_3, F37_4, F37_5, F37_6, F37_7⟩ := fz8_ BK151.out
         go_wp2_with (first | ((with_reducible refine gate_callee (f := 48) rfl ?_); refine gl_ (some 35) rfl Try.func48 #[.agg #[.int .i64 a1_0, .int .i64 a1_1, .bool a1_2, .int .i64 a1_3, .string a1_4, .bool a1_5, .int .i64 a1_6, .string a1_7]] ?_; (with_reducible refine (zone_some.calls a1_0 a1_1 a1_2 a1_3 a1_4 a1_5 a1_6 a1_7 true _ A16.out).mono ?_); rintro e w38 ⟨rfl, hb⟩; refine ⟨_, rfl, ?_⟩;  replace BK151 := bk_ BK151 hb; replace HB := bs_ HB hb; (try clear hb); obtain ⟨C39_0, C39_1, C39_2, C39_3, C39_4, C39_5, C39_6, C39_7⟩ := zc8_ BK151.out; obtain ⟨F39_0, F39_1, F39_2, F39_3, F39_4, F39_5, F39_6, F39_7⟩ := zf8_ BK151.out) | ((with_reducible refine gate_callee (f := 49) rfl ?_); refine gl_ (some 50) rfl Try.func49 #[.int .i64 a0, .bool false, .agg #[.bool a1_2, .int .i64 a1_3, .string a1_4]] ?_; (with_reducible refine (cell_May.calls a0 false a1_2 a1_3 a1_4 false _ A18.out).mono ?_); rintro e w40 ⟨rfl, hb⟩; refine ⟨_, rfl, ?_⟩;  replace BK151 := bk_ BK151 hb; replace HB := bs_ HB hb; (try clear hb)))
         go_ret
         exact en_ HB
       ·replace c17 := Bool.eq_false_iff.mpr c17
        subst c17
        have H1 : (if (!a1_2 && (a1_3 == 0 && (a1_4.toList.isEmpty))) = true then (some (!a1_5 && (a1_6 == 0 && (a1_7.toList.isEmpty)))) else (some false)) = some r := by rw [if_neg (show ¬ (false = true) by decide)] at H; exact H
        clear H
        have H := H1
        clear H1
        by_cases c41 : (!a1_2 && (a1_3 == 0 && (a1_4.toList.isEmpty))) = true
        ·rw [if_pos c41] at H
         have c41b0 : (!a1_2 && (a1_3 == 0 && (a1_4.toList.isEmpty))) = true := c41
         clear c41
         obtain rfl := Option.some.inj H
         obtain ⟨C42_0, C42_1, C42_2, C42_3, C42_4, C42_5, C42_6, C42_7⟩ := cz8_ BK151.out
         obtain ⟨F42_0, F42_1, F42_2, F42_3, F42_4, F42_5, F42_6, F42_7⟩ := fz8_ BK151.out
         go_wp2_with (first | ((with_reducible refine gate_callee (f := 48) rfl ?_); refine gl_ (some 35) rfl Try.func48 #[.agg #[.int .i64 a1_0, .int .i64 a1_1, .bool a1_2, .int .i64 a1_3, .string a1_4, .bool a1_5, .int .i64 a1_6, .string a1_7]] ?_; (with_reducible refine (zone_some.calls a1_0 a1_1 a1_2 a1_3 a1_4 a1_5 a1_6 a1_7 false _ A16.out).mono ?_); rintro e w43 ⟨rfl, hb⟩; refine ⟨_, rfl, ?_⟩;  replace BK151 := bk_ BK151 hb; replace HB := bs_ HB hb; (try clear hb); obtain ⟨C44_0, C44_1, C44_2, C44_3, C44_4, C44_5, C44_6, C44_7⟩ := zc8_ BK151.out; obtain ⟨F44_0, F44_1, F44_2, F44_3, F44_4, F44_5, F44_6, F44_7⟩ := zf8_ BK151.out))
         go_ret
         exact en_ HB
        ·rw [if_neg c41] at H
         have c41b0 : (!a1_2 && (a1_3 == 0 && (a1_4.toList.isEmpty))) = false := by simpa using c41
         clear c41
         obtain rfl := Option.some.inj H
         obtain ⟨C45_0, C45_1, C45_2, C45_3, C45_4, C45_5, C45_6, C45_7⟩ := cz8_ BK151.out
         obtain ⟨F45_0, F45_1, F45_2, F45_3, F45_4, F45_5, F45_6, F45_7⟩ := fz8_ BK151.out
         go_wp2_with (first | ((with_reducible refine gate_callee (f := 48) rfl ?_); refine gl_ (some 35) rfl Try.func48 #[.agg #[.int .i64 a1_0, .int .i64 a1_1, .bool a1_2, .int .i64 a1_3, .string a1_4, .bool a1_5, .int .i64 a1_6, .string a1_7]] ?_; (with_reducible refine (zone_some.calls a1_0 a1_1 a1_2 a1_3 a1_4 a1_5 a1_6 a1_7 false _ A16.out).mono ?_); rintro e w46 ⟨rfl, hb⟩; refine ⟨_, rfl, ?_⟩;  replace BK151 := bk_ BK151 hb; replace HB := bs_ HB hb; (try clear hb); obtain ⟨C47_0, C47_1, C47_2, C47_3, C47_4, C47_5, C47_6, C47_7⟩ := zc8_ BK151.out; obtain ⟨F47_0, F47_1, F47_2, F47_3, F47_4, F47_5, F47_6, F47_7⟩ := zf8_ BK151.out))
         go_ret
         exact en_ HB
end Go.Proofs.Ytdedmhmomoejkaa.X
namespace Go.Proofs.Ytdedmhmomoejkaa.X
open Go.RowKit Go.Proofs.YtdedmhmomoejkaaW.PrintWords Go.Proofs.YtdedmhmomoejkaaW.PrintLast Go.Proofs.YtdedmhmomoejkaaW.PrintMore
attribute [local go_sem] max2_int max_two
set_option linter.unusedVariables false
set_option linter.unusedSimpArgs false
def prune_Truths_not.f (a0_0 : Bool) (a0_1 : Bool) (a0_2 : Bool) : Option (Bool × Bool × Bool) := some (a0_1, a0_0, a0_2)
set_option maxHeartbeats 8000000 in
set_option maxRecDepth 100000 in
theorem prune_Truths_not.calls (a0_0 : Bool) (a0_1 : Bool) (a0_2 : Bool) (r1 : Bool) (r2 : Bool) (r3 : Bool) (w : World) (h : prune_Truths_not.f a0_0 a0_1 a0_2 = some (r1, r2, r3)) :
  Calls Try.prog 51 #[.agg #[.bool a0_0, .bool a0_1, .bool a0_2]] w fun e w' => e = .returned (.agg #[.bool r1, .bool r2, .bool r3]) ∧ Below w.heap.size w w' := by
 have hu35 := Try.underlying35
 have HB := Aside0.mk (Below.refl w.heap.size w)
 have H : (some (a0_1, a0_0, a0_2)) = some (r1, r2, r3) := h
 clear h
 simp only [Option.some.injEq, Prod.mk.injEq] at H
 obtain ⟨rfl, rfl, rfl⟩ := H
 go_enter Try.func51, Try.ntmps51
 go_wp2_with (first | (refine bx_ (N := 1) (cs := #[.bool a0_0, .bool a0_1, .bool a0_2]) (t := 35) ?_; intro gb156 hg w2 hbox hb; have BK156 := Aside0.mk (hbox); have GW156 := ge_ HB hg; have GE156 := ge_ HB hg; replace HB := bs_ HB hb; clear hb hbox hg) | (refine bx_ (N := 2) (cs := #[.bool false, .bool false, .bool false]) (t := 35) ?_; intro gb157 hg w3 hbox hb; have BK157 := Aside0.mk (hbox); have GW157 := ge_ HB hg; have GE157 := ge_ HB hg; have NB156_157 := lt_ BK156 hg; have NB157_156 := gt_ BK156 hg; replace BK156 := bk_ BK156 hb; replace HB := bs_ HB hb; clear hb hbox hg; have hnb4 := NB156_157.out; have hnc4 := NB157_156.out; obtain ⟨C5_0, C5_1, C5_2⟩ := zc3_ BK156.out; obtain ⟨F5_0, F5_1, F5_2⟩ := zf3_ BK156.out; obtain ⟨C6_0, C6_1, C6_2⟩ := zc3_ BK157.out; obtain ⟨F6_0, F6_1, F6_2⟩ := zf3_ BK157.out))
 refine bodyPost_ret (results_cell_row rfl _ _ gb157 35 #[.bool a0_1, .bool a0_0, .bool a0_2] (0, 0) _ rfl (by (with_reducible repeat (first | refine blk_drewN ?_ _ | refine blk_drew ?_ | refine blk_alloc ?_ _)); apply blk_all3_; (with_reducible repeat (first | refine blk_drewN ?_ _ | refine blk_drew ?_ | refine blk_alloc ?_ _)); exact BK157.out) Try.underlying35 rfl (by kernel_rfl)) rfl ?_
 exact en_ HB
end Go.Proofs.Ytdedmhmomoejkaa.X
namespace Go.Proofs.Ytdedmhmomoejkaa.X
open Go.RowKit Go.Proofs.YtdedmhmomoejkaaW.PrintWords Go.Proofs.YtdedmhmomoejkaaW.PrintLast Go.Proofs.YtdedmhmomoejkaaW.PrintMore
attribute [local go_sem] max2_int max_two
set_option linter.unusedVariables false
set_option linter.unusedSimpArgs false
def prune_Truths_and.f (a0_0 : Bool) (a0_1 : Bool) (a0_2 : Bool) (a1_0 : Bool) (a1_1 : Bool) (a1_2 : Bool) : Option (Bool × Bool × Bool) := if a0_0 = true then (if a0_1 = true then (if a0_2 = true then (some (a1_0, true, true)) else (some (a1_0, true, a1_2))) else (if a0_2 = true then (some (a1_0, a1_1, true)) else (some (a1_0, a1_1, a1_2)))) else (if a0_1 = true then (if a0_2 = true then (some (false, true, true)) else (some (false, true, a1_2))) else (if a0_2 = true then (some (false, a1_1, true)) else (some (false, a1_1, a1_2))))
set_option maxHeartbeats 8000000 in
set_option maxRecDepth 100000 in
theorem prune_Truths_and.calls (a0_0 : Bool) (a0_1 : Bool) (a0_2 : Bool) (a1_0 : Bool) (a1_1 : Bool) (a1_2 : Bool) (r1 : Bool) (r2 : Bool) (r3 : Bool) (w : World) (h : prune_Truths_and.f a0_0 a0_1 a0_2 a1_0 a1_1 a1_2 = some (r1, r2, r3)) :
  Calls Try.prog 52 #[.agg #[.bool a0_0, .bool a0_1, .bool a0_2], .agg #[.bool a1_0, .bool a1_1, .bool a1_2]] w fun e w' => e = .returned (.agg #[.bool r1, .bool r2, .bool r3]) ∧ Below w.heap.size w w' := by
 have hu35 := Try.underlying35
 have HB := Aside0.mk (Below.refl w.heap.size w)
 have H : (if a0_0 = true then (if a0_1 = true then (if a0_2 = true then (some (a1_0, true, true)) else (some (a1_0, true, a1_2))) else (if a0_2 = true then (some (a1_0, a1_1, true)) else (some (a1_0, a1_1, a1_2)))) else (if a0_1 = true then (if a0_2 = true then (some (false, true, true)) else (some (false, true, a1_2))) else (if a0_2 = true then (some (false, a1_1, true)) else (some (false, a1_1, a1_2))))) = some (r1, r2, r3) := h
 clear h
 by_cases c3 : a0_0 = true
 ·subst c3
  have H1 : (if a0_1 = true then (if a0_2 = true then (some (a1_0, true, true)) else (some (a1_0, true, a1_2))) else (if a0_2 = true then (some (a1_0, a1_1, true)) else (some (a1_0, a1_1, a1_2)))) = some (r1, r2, r3) := by rw [if_pos rfl] at H; exact H
  clear H
  have H := H1
  clear H1
  by_cases c4 : a0_1 = true
  ·subst c4
   have H1 : (if a0_2 = true then (some (a1_0, true, true)) else (some (a1_0, true, a1_2))) = some (r1, r2, r3) := by rw [if_pos rfl] at H; exact H
   clear H
   have H := H1
   clear H1
   by_cases c5 : a0_2 = true
   ·subst c5
    have H1 : (some (a1_0, true, true)) = some (r1, r2, r3) := by rw [if_pos rfl] at H; exact H
    clear H
    have H := H1
    clear H1
    simp only [Option.some.injEq, Prod.mk.injEq] at H
    obtain ⟨rfl, rfl, rfl⟩ := H
    go_enter Try.func52, Try.ntmps52
    go_wp2_with (first | (refine bx_ (N := 2) (cs := #[.bool true, .bool true, .bool true]) (t := 35) ?_; intro gb158 hg w6 hbox hb; have BK158 := Aside0.mk (hbox); have GW158 := ge_ HB hg; have GE158 := ge_ HB hg; replace HB := bs_ HB hb; clear hb hbox hg) | (refine bx_ (N := 3) (cs := #[.bool a1_0, .bool a1_1, .bool a1_2]) (t := 35) ?_; intro gb159 hg w7 hbox hb; have BK159 := Aside0.mk (hbox); have GW159 := ge_ HB hg; have GE159 := ge_ HB hg; have NB158_159 := lt_ BK158 hg; have NB159_158 := gt_ BK158 hg; replace BK158 := bk_ BK158 hb; replace HB := bs_ HB hb; clear hb hbox hg) | (refine bx_ (N := 4) (cs := #[.bool false, .bool false, .bool false]) (t := 35) ?_; intro gb160 hg w8 hbox hb; have BK160 := Aside0.mk (hbox); have GW160 := ge_ HB hg; have GE160 := ge_ HB hg; have NB158_160 := lt_ BK158 hg; have NB160_158 := gt_ BK158 hg; have NB159_160 := lt_ BK159 hg; have NB160_159 := gt_ BK159 hg; replace BK158 := bk_ BK158 hb; replace BK159 := bk_ BK159 hb; replace HB := bs_ HB hb; clear hb hbox hg; have hnb9 := NB158_159.out; have hnc9 := NB159_158.out; have hnb10 := NB158_160.out; have hnc10 := NB160_158.out; obtain ⟨C11_0, C11_1, C11_2⟩ := zc3_ BK158.out; obtain ⟨F11_0, F11_1, F11_2⟩ := zf3_ BK158.out; have hnb12 := NB159_160.out; have hnc12 := NB160_159.out; obtain ⟨C13_0, C13_1, C13_2⟩ := zc3_ BK159.out; obtain ⟨F13_0, F13_1, F13_2⟩ := zf3_ BK159.out; obtain ⟨C14_0, C14_1, C14_2⟩ := zc3_ BK160.out; obtain ⟨F14_0, F14_1, F14_2⟩ := zf3_ BK160.out))
    refine bodyPost_ret (results_cell_row rfl _ _ gb160 35 #[.bool a1_0, .bool true, .bool true] (0, 0) _ rfl (by (with_reducible repeat (first | refine blk_drewN ?_ _ | refine blk_drew ?_ | refine blk_alloc ?_ _)); apply blk_all3_; (with_reducible repeat (first | refine blk_drewN ?_ _ | refine blk_drew ?_ | refine blk_alloc ?_ _)); exact BK160.out) Try.underlying35 rfl (by kernel_rfl)) rfl ?_
    exact en_ HB
   ·replace c5 := Bool.eq_false_iff.mpr c5
    subst c5
    have H1 : (some (a1_0, true, a1_2)) = some (r1, r2, r3) := by rw [if_neg (show ¬ (false = true) by decide)] at H; exact H
    clear H
    have H := H1
    clear H1
    simp only [Option.some.injEq, Prod.mk.injEq] at H
    obtain ⟨rfl, rfl, rfl⟩ := H
    go_enter Try.func52, Try.ntmps52
    go_wp2_with (first | (refine bx_ (N := 2) (cs := #[.bool true, .bool true, .bool false]) (t := 35) ?_; intro gb158 hg w15 hbox hb; have BK158 := Aside0.mk (hbox); have GW158 := ge_ HB hg; have GE158 := ge_ HB hg; replace HB := bs_ HB hb; clear hb hbox hg) | (refine bx_ (N := 3) (cs := #[.bool a1_0, .bool a1_1, .bool a1_2]) (t := 35) ?_; intro gb159 hg w16 hbox hb; have BK159 := Aside0.mk (hbox); have GW159 := ge_ HB hg; have GE159 := ge_ HB hg; have NB158_159 := lt_ BK158 hg; have NB159_158 := gt_ BK158 hg; replace BK158 := bk_ BK158 hb; replace HB := bs_ HB hb; clear hb hbox hg) | (refine bx_ (N := 4) (cs := #[.bool false, .bool false, .bool false]) (t := 35) ?_; intro gb160 hg w17 hbox hb; have BK160 := Aside0.mk (hbox); have GW160 := ge_ HB hg; have GE160 := ge_ HB hg; have NB158_160 := lt_ BK158 hg; have NB160_158 := gt_ BK158 hg; have NB159_160 := lt_ BK159 hg; have NB160_159 := gt_ BK159 hg; replace BK158 := bk_ BK158 hb; replace BK159 := bk_ BK159 hb; replace HB := bs_ HB hb; clear hb hbox hg; have hnb18 := NB158_159.out; have hnc18 := NB159_158.out; have hnb19 := NB158_160.out; have hnc19 := NB160_158.out; obtain ⟨C20_0, C20_1, C20_2⟩ := zc3_ BK158.out; obtain ⟨F20_0, F20_1, F20_2⟩ := zf3_ BK158.out; have hnb21 := NB159_160.out; have hnc21 := NB160_159.out; obtain ⟨C22_0, C22_1, C22_2⟩ := zc3_ BK159.out; obtain ⟨F22_0, F22_1, F22_2⟩ := zf3_ BK159.out; obtain ⟨C23_0, C23_1, C23_2⟩ := zc3_ BK160.out; obtain ⟨F23_0, F23_1, F23_2⟩ := zf3_ BK160.out))
    refine bodyPost_ret (results_cell_row rfl _ _ gb160 35 #[.bool a1_0, .bool true, .bool a1_2] (0, 0) _ rfl (by (with_reducible repeat (first | refine blk_drewN ?_ _ | refine blk_drew ?_ | refine blk_alloc ?_ _)); apply blk_all3_; (with_reducible repeat (first | refine blk_drewN ?_ _ | refine blk_drew ?_ | refine blk_alloc ?_ _)); exact BK160.out) Try.underlying35 rfl (by kernel_rfl)) rfl ?_
    exact en_ HB
  ·replace c4 := Bool.eq_false_iff.mpr c4
   subst c4
   have H1 : (if a0_2 = true then (some (a1_0, a1_1, true)) else (some (a1_0, a1_1, a1_2))) = some (r1, r2, r3) := by rw [if_neg (show ¬ (false = true) by decide)] at H; exact H
   clear H
   have H := H1
   clear H1
   by_cases c24 : a0_2 = true
   ·subst c24
    have H1 : (some (a1_0, a1_1, true)) = some (r1, r2, r3) := by rw [if_pos rfl] at H; exact H
    clear H
    have H := H1
    clear H1
    simp only [Option.some.injEq, Prod.mk.injEq] at H
    obtain ⟨rfl, rfl, rfl⟩ := H
    go_enter Try.func52, Try.ntmps52
    go_wp2_with (first | (refine bx_ (N := 2) (cs := #[.bool true, .bool false, .bool true]) (t := 35) ?_; intro gb158 hg w25 hbox hb; have BK158 := Aside0.mk (hbox); have GW158 := ge_ HB hg; have GE158 := ge_ HB hg; replace HB := bs_ HB hb; clear hb hbox hg) | (refine bx_ (N := 3) (cs := #[.bool a1_0, .bool a1_1, .bool a1_2]) (t := 35) ?_; intro gb159 hg w26 hbox hb; have BK159 := Aside0.mk (hbox); have GW159 := ge_ HB hg; have GE159 := ge_ HB hg; have NB158_159 := lt_ BK158 hg; have NB159_158 := gt_ BK158 hg; replace BK158 := bk_ BK158 hb; replace HB := bs_ HB hb; clear hb hbox hg) | (refine bx_ (N := 4) (cs := #[.bool false, .bool false, .bool false]) (t := 35) ?_; intro gb160 hg w27 hbox hb; have BK160 := Aside0.mk (hbox); have GW160 := ge_ HB hg; have GE160 := ge_ HB hg; have NB158_160 := lt_ BK158 hg; have NB160_158 := gt_ BK158 hg; have NB159_160 := lt_ BK159 hg; have NB160_159 := gt_ BK159 hg; replace BK158 := bk_ BK158 hb; replace BK159 := bk_ BK159 hb; replace HB := bs_ HB hb; clear hb hbox hg; have hnb28 := NB158_159.out; have hnc28 := NB159_158.out; have hnb29 := NB158_160.out; have hnc29 := NB160_158.out; obtain ⟨C30_0, C30_1, C30_2⟩ := zc3_ BK158.out; obtain ⟨F30_0, F30_1, F30_2⟩ := zf3_ BK158.out; have hnb31 := NB159_160.out; have hnc31 := NB160_159.out; obtain ⟨C32_0, C32_1, C32_2⟩ := zc3_ BK159.out; obtain ⟨F32_0, F32_1, F32_2⟩ := zf3_ BK159.out; obtain ⟨C33_0, C33_1, C33_2⟩ := zc3_ BK160.out; obtain ⟨F33_0, F33_1, F33_2⟩ := zf3_ BK160.out))
    refine bodyPost_ret (results_cell_row rfl _ _ gb160 35 #[.bool a1_0, .bool a1_1, .bool true] (0, 0) _ rfl (by (with_reducible repeat (first | refine blk_drewN ?_ _ | refine blk_drew ?_ | refine blk_alloc ?_ _)); apply blk_all3_; (with_reducible repeat (first | refine blk_drewN ?_ _ | refine blk_drew ?_ | refine blk_alloc ?_ _)); exact BK160.out) Try.underlying35 rfl (by kernel_rfl)) rfl ?_
    exact en_ HB
   ·replace c24 := Bool.eq_false_iff.mpr c24
    subst c24
    have H1 : (some (a1_0, a1_1, a1_2)) = some (r1, r2, r3) := by rw [if_neg (show ¬ (false = true) by decide)] at H; exact H
    clear H
    have H := H1
    clear H1
    simp only [Option.some.injEq, Prod.mk.injEq] at H
    obtain ⟨rfl, rfl, rfl⟩ := H
    go_enter Try.func52, Try.ntmps52
    go_wp2_with (first | (refine bx_ (N := 2) (cs := #[.bool true, .bool false, .bool false]) (t := 35) ?_; intro gb158 hg w34 hbox hb; have BK158 := Aside0.mk (hbox); have GW158 := ge_ HB hg; have GE158 := ge_ HB hg; replace HB := bs_ HB hb; clear hb hbox hg) | (refine bx_ (N := 3) (cs := #[.bool a1_0, .bool a1_1, .bool a1_2]) (t := 35) ?_; intro gb159 hg w35 hbox hb; have BK159 := Aside0.mk (hbox); have GW159 := ge_ HB hg; have GE159 := ge_ HB hg; have NB158_159 := lt_ BK158 hg; have NB159_158 := gt_ BK158 hg; replace BK158 := bk_ BK158 hb; replace HB := bs_ HB hb; clear hb hbox hg) | (refine bx_ (N := 4) (cs := #[.bool false, .bool false, .bool false]) (t := 35) ?_; intro gb160 hg w36 hbox hb; have BK160 := Aside0.mk (hbox); have GW160 := ge_ HB hg; have GE160 := ge_ HB hg; have NB158_160 := lt_ BK158 hg; have NB160_158 := gt_ BK158 hg; have NB159_160 := lt_ BK159 hg; have NB160_159 := gt_ BK159 hg; replace BK158 := bk_ BK158 hb; replace BK159 := bk_ BK159 hb; replace HB := bs_ HB hb; clear hb hbox hg; have hnb37 := NB158_159.out; have hnc37 := NB159_158.out; have hnb38 := NB158_160.out; have hnc38 := NB160_158.out; obtain ⟨C39_0, C39_1, C39_2⟩ := zc3_ BK158.out; obtain ⟨F39_0, F39_1, F39_2⟩ := zf3_ BK158.out; have hnb40 := NB159_160.out; have hnc40 := NB160_159.out; obtain ⟨C41_0, C41_1, C41_2⟩ := zc3_ BK159.out; obtain ⟨F41_0, F41_1, F41_2⟩ := zf3_ BK159.out; obtain ⟨C42_0, C42_1, C42_2⟩ := zc3_ BK160.out; obtain ⟨F42_0, F42_1, F42_2⟩ := zf3_ BK160.out))
    refine bodyPost_ret (results_cell_row rfl _ _ gb160 35 #[.bool a1_0, .bool a1_1, .bool a1_2] (0, 0) _ rfl (by (with_reducible repeat (first | refine blk_drewN ?_ _ | refine blk_drew ?_ | refine blk_alloc ?_ _)); apply blk_all3_; (with_reducible repeat (first | refine blk_drewN ?_ _ | refine blk_drew ?_ | refine blk_alloc ?_ _)); exact BK160.out) Try.underlying35 rfl (by kernel_rfl)) rfl ?_
    exact en_ HB
 ·replace c3 := Bool.eq_false_iff.mpr c3
  subst c3
  have H1 : (if a0_1 = true then (if a0_2 = true then (some (false, true, true)) else (some (false, true, a1_2))) else (if a0_2 = true then (some (false, a1_1, true)) else (some (false, a1_1, a1_2)))) = some (r1, r2, r3) := by rw [if_neg (show ¬ (false = true) by decide)] at H; exact H
  clear H
  have H := H1
  clear H1
  by_cases c43 : a0_1 = true
  ·subst c43
   have H1 : (if a0_2 = true then (some (false, true, true)) else (some (false, true, a1_2))) = some (r1, r2, r3) := by rw [if_pos rfl] at H; exact H
   clear H
   have H := H1
   clear H1
   by_cases c44 : a0_2 = true
   ·subst c44
    have H1 : (some (false, true, true)) = some (r1, r2, r3) := by rw [if_pos rfl] at H; exact H
    clear H
    have H := H1
    clear H1
    simp only [Option.some.injEq, Prod.mk.injEq] at H
    obtain ⟨rfl, rfl, rfl⟩ := H
    go_enter Try.func52, Try.ntmps52
    go_wp2_with (first | (refine bx_ (N := 2) (cs := #[.bool false, .bool true, .bool true]) (t := 35) ?_; intro gb158 hg w45 hbox hb; have BK158 := Aside0.mk (hbox); have GW158 := ge_ HB hg; have GE158 := ge_ HB hg; replace HB := bs_ HB hb; clear hb hbox hg) | (refine bx_ (N := 3) (cs := #[.bool a1_0, .bool a1_1, .bool a1_2]) (t := 35) ?_; intro gb159 hg w46 hbox hb; have BK159 := Aside0.mk (hbox); have GW159 := ge_ HB hg; have GE159 := ge_ HB hg; have NB158_159 := lt_ BK158 hg; have NB159_158 := gt_ BK158 hg; replace BK158 := bk_ BK158 hb; replace HB := bs_ HB hb; clear hb hbox hg) | (refine bx_ (N := 4) (cs := #[.bool false, .bool false, .bool false]) (t := 35) ?_; intro gb160 hg w47 hbox hb; have BK160 := Aside0.mk (hbox); have GW160 := ge_ HB hg; have GE160 := ge_ HB hg; have NB158_160 := lt_ BK158 hg; have NB160_158 := gt_ BK158 hg; have NB159_160 := lt_ BK159 hg; have NB160_159 := gt_ BK159 hg; replace BK158 := bk_ BK158 hb; replace BK159 := bk_ BK159 hb; replace HB := bs_ HB hb; clear hb hbox hg; have hnb48 := NB158_159.out; have hnc48 := NB159_158.out; have hnb49 := NB158_160.out; have hnc49 := NB160_158.out; obtain ⟨C50_0, C50_1, C50_2⟩ := zc3_ BK158.out; obtain ⟨F50_0, F50_1, F50_2⟩ := zf3_ BK158.out; have hnb51 := NB160_159.out; have hnc51 := NB159_160.out; obtain ⟨C52_0, C52_1, C52_2⟩ := zc3_ BK160.out; obtain ⟨F52_0, F52_1, F52_2⟩ := zf3_ BK160.out))
    refine bodyPost_ret (results_cell_row rfl _ _ gb160 35 #[.bool false, .bool true, .bool true] (0, 0) _ rfl (by (with_reducible repeat (first | refine blk_drewN ?_ _ | refine blk_drew ?_ | refine blk_alloc ?_ _)); apply blk_all3_; (with_reducible repeat (first | refine blk_drewN ?_ _ | refine blk_drew ?_ | refine blk_alloc ?_ _)); exact BK160.out) Try.underlying35 rfl (by kernel_rfl)) rfl ?_
    exact en_ HB
   ·replace c44 := Bool.eq_false_iff.mpr c44
    subst c44
    have H1 : (some (false, true, a1_2)) = some (r1, r2, r3) := by rw [if_neg (show ¬ (false = true) by decide)] at H; exact H
    clear H
    have H := H1
    clear H1
    simp only [Option.some.injEq, Prod.mk.injEq] at H
    obtain ⟨rfl, rfl, rfl⟩ := H
    go_enter Try.func52, Try.ntmps52
    go_wp2_with (first | (refine bx_ (N := 2) (cs := #[.bool false, .bool true, .bool false]) (t := 35) ?_; intro gb158 hg w53 hbox hb; have BK158 := Aside0.mk (hbox); have GW158 := ge_ HB hg; have GE158 := ge_ HB hg; replace HB := bs_ HB hb; clear hb hbox hg) | (refine bx_ (N := 3) (cs := #[.bool a1_0, .bool a1_1, .bool a1_2]) (t := 35) ?_; intro gb159 hg w54 hbox hb; have BK159 := Aside0.mk (hbox); have GW159 := ge_ HB hg; have GE159 := ge_ HB hg; have NB158_159 := lt_ BK158 hg; have NB159_158 := gt_ BK158 hg; replace BK158 := bk_ BK158 hb; replace HB := bs_ HB hb; clear hb hbox hg) | (refine bx_ (N := 4) (cs := #[.bool false, .bool false, .bool false]) (t := 35) ?_; intro gb160 hg w55 hbox hb; have BK160 := Aside0.mk (hbox); have GW160 := ge_ HB hg; have GE160 := ge_ HB hg; have NB158_160 := lt_ BK158 hg; have NB160_158 := gt_ BK158 hg; have NB159_160 := lt_ BK159 hg; have NB160_159 := gt_ BK159 hg; replace BK158 := bk_ BK158 hb; replace BK159 := bk_ BK159 hb; replace HB := bs_ HB hb; clear hb hbox hg; have hnb56 := NB158_159.out; have hnc56 := NB159_158.out; have hnb57 := NB158_160.out; have hnc57 := NB160_158.out; obtain ⟨C58_0, C58_1, C58_2⟩ := zc3_ BK158.out; obtain ⟨F58_0, F58_1, F58_2⟩ := zf3_ BK158.out; have hnb59 := NB159_160.out; have hnc59 := NB160_159.out; obtain ⟨C60_0, C60_1, C60_2⟩ := zc3_ BK159.out; obtain ⟨F60_0, F60_1, F60_2⟩ := zf3_ BK159.out; obtain ⟨C61_0, C61_1, C61_2⟩ := zc3_ BK160.out; obtain ⟨F61_0, F61_1, F61_2⟩ := zf3_ BK160.out))
    refine bodyPost_ret (results_cell_row rfl _ _ gb160 35 #[.bool false, .bool true, .bool a1_2] (0, 0) _ rfl (by (with_reducible repeat (first | refine blk_drewN ?_ _ | refine blk_drew ?_ | refine blk_alloc ?_ _)); apply blk_all3_; (with_reducible repeat (first | refine blk_drewN ?_ _ | refine blk_drew ?_ | refine blk_alloc ?_ _)); exact BK160.out) Try.underlying35 rfl (by kernel_rfl)) rfl ?_
    exact en_ HB
  ·replace c43 := Bool.eq_false_iff.mpr c43
   subst c43
   have H1 : (if a0_2 = true then (some (false, a1_1, true)) else (some (false, a1_1, a1_2))) = some (r1, r2, r3) := by rw [if_neg (show ¬ (false = true) by decide)] at H; exact H
   clear H
   have H := H1
   clear H1
   by_cases c62 : a0_2 = true
   ·subst c62
    have H1 : (some (false, a1_1, true)) = some (r1, r2, r3) := by rw [if_pos rfl] at H; exact H
    clear H
    have H := H1
    clear H1
    simp only [Option.some.injEq, Prod.mk.injEq] at H
    obtain ⟨rfl, rfl, rfl⟩ := H
    go_enter Try.func52, Try.ntmps52
    go_wp2_with (first | (refine bx_ (N := 2) (cs := #[.bool false, .bool false, .bool true]) (t := 35) ?_; intro gb158 hg w63 hbox hb; have BK158 := Aside0.mk (hbox); have GW158 := ge_ HB hg; have GE158 := ge_ HB hg; replace HB := bs_ HB hb; clear hb hbox hg) | (refine bx_ (N := 3) (cs := #[.bool a1_0, .bool a1_1, .bool a1_2]) (t := 35) ?_; intro gb159 hg w64 hbox hb; have BK159 := Aside0.mk (hbox); have GW159 := ge_ HB hg; have GE159 := ge_ HB hg; have NB158_159 := lt_ BK158 hg; have NB159_158 := gt_ BK158 hg; replace BK158 := bk_ BK158 hb; replace HB := bs_ HB hb; clear hb hbox hg) | (refine bx_ (N := 4) (cs := #[.bool false, .bool false, .bool false]) (t := 35) ?_; intro gb160 hg w65 hbox hb; have BK160 := Aside0.mk (hbox); have GW160 := ge_ HB hg; have GE160 := ge_ HB hg; have NB158_160 := lt_ BK158 hg; have NB160_158 := gt_ BK158 hg; have NB159_160 := lt_ BK159 hg; have NB160_159 := gt_ BK159 hg; replace BK158 := bk_ BK158 hb; replace BK159 := bk_ BK159 hb; replace HB := bs_ HB hb; clear hb hbox hg; have hnb66 := NB158_159.out; have hnc66 := NB159_158.out; have hnb67 := NB158_160.out; have hnc67 := NB160_158.out; obtain ⟨C68_0, C68_1, C68_2⟩ := zc3_ BK158.out; obtain ⟨F68_0, F68_1, F68_2⟩ := zf3_ BK158.out; have hnb69 := NB159_160.out; have hnc69 := NB160_159.out; obtain ⟨C70_0, C70_1, C70_2⟩ := zc3_ BK159.out; obtain ⟨F70_0, F70_1, F70_2⟩ := zf3_ BK159.out; obtain ⟨C71_0, C71_1, C71_2⟩ := zc3_ BK160.out; obtain ⟨F71_0, F71_1, F71_2⟩ := zf3_ BK160.out))
    refine bodyPost_ret (results_cell_row rfl _ _ gb160 35 #[.bool false, .bool a1_1, .bool true] (0, 0) _ rfl (by (with_reducible repeat (first | refine blk_drewN ?_ _ | refine blk_drew ?_ | refine blk_alloc ?_ _)); apply blk_all3_; (with_reducible repeat (first | refine blk_drewN ?_ _ | refine blk_drew ?_ | refine blk_alloc ?_ _)); exact BK160.out) Try.underlying35 rfl (by kernel_rfl)) rfl ?_
    exact en_ HB
   ·replace c62 := Bool.eq_false_iff.mpr c62
    subst c62
    have H1 : (some (false, a1_1, a1_2)) = some (r1, r2, r3) := by rw [if_neg (show ¬ (false = true) by decide)] at H; exact H
    clear H
    have H := H1
    clear H1
    simp only [Option.some.injEq, Prod.mk.injEq] at H
    obtain ⟨rfl, rfl, rfl⟩ := H
    go_enter Try.func52, Try.ntmps52
    go_wp2_with (first | (refine bx_ (N := 2) (cs := #[.bool false, .bool false, .bool false]) (t := 35) ?_; intro gb158 hg w72 hbox hb; have BK158 := Aside0.mk (hbox); have GW158 := ge_ HB hg; have GE158 := ge_ HB hg; replace HB := bs_ HB hb; clear hb hbox hg) | (refine bx_ (N := 3) (cs := #[.bool a1_0, .bool a1_1, .bool a1_2]) (t := 35) ?_; intro gb159 hg w73 hbox hb; have BK159 := Aside0.mk (hbox); have GW159 := ge_ HB hg; have GE159 := ge_ HB hg; have NB158_159 := lt_ BK158 hg; have NB159_158 := gt_ BK158 hg; replace BK158 := bk_ BK158 hb; replace HB := bs_ HB hb; clear hb hbox hg) | (refine bx_ (N := 4) (cs := #[.bool false, .bool false, .bool false]) (t := 35) ?_; intro gb160 hg w74 hbox hb; have BK160 := Aside0.mk (hbox); have GW160 := ge_ HB hg; have GE160 := ge_ HB hg; have NB158_160 := lt_ BK158 hg; have NB160_158 := gt_ BK158 hg; have NB159_160 := lt_ BK159 hg; have NB160_159 := gt_ BK159 hg; replace BK158 := bk_ BK158 hb; replace BK159 := bk_ BK159 hb; replace HB := bs_ HB hb; clear hb hbox hg; have hnb75 := NB158_159.out; have hnc75 := NB159_158.out; have hnb76 := NB158_160.out; have hnc76 := NB160_158.out; obtain ⟨C77_0, C77_1, C77_2⟩ := zc3_ BK158.out; obtain ⟨F77_0, F77_1, F77_2⟩ := zf3_ BK158.out; have hnb78 := NB159_160.out; have hnc78 := NB160_159.out; obtain ⟨C79_0, C79_1, C79_2⟩ := zc3_ BK159.out; obtain ⟨F79_0, F79_1, F79_2⟩ := zf3_ BK159.out; obtain ⟨C80_0, C80_1, C80_2⟩ := zc3_ BK160.out; obtain ⟨F80_0, F80_1, F80_2⟩ := zf3_ BK160.out))
    refine bodyPost_ret (results_cell_row rfl _ _ gb160 35 #[.bool false, .bool a1_1, .bool a1_2] (0, 0) _ rfl (by (with_reducible repeat (first | refine blk_drewN ?_ _ | refine blk_drew ?_ | refine blk_alloc ?_ _)); apply blk_all3_; (with_reducible repeat (first | refine blk_drewN ?_ _ | refine blk_drew ?_ | refine blk_alloc ?_ _)); exact BK160.out) Try.underlying35 rfl (by kernel_rfl)) rfl ?_
    exact en_ HB
end Go.Proofs.Ytdedmhmomoejkaa.X
namespace Go.Proofs.Ytdedmhmomoejkaa.X
open Go.RowKit Go.Proofs.YtdedmhmomoejkaaW.PrintWords Go.Proofs.YtdedmhmomoejkaaW.PrintLast Go.Proofs.YtdedmhmomoejkaaW.PrintMore
attribute [local go_sem] max2_int max_two
set_option linter.unusedVariables false
set_option linter.unusedSimpArgs false
def zone_Has.f (k : Nat) (a0_0 : Int) (a0_1 : Int) (a0_2 : Bool) (a0_3 : Int) (a0_4 : ByteArray) (a0_5 : Bool) (a0_6 : Int) (a0_7 : ByteArray) (a1_0 : Bool) (a1_1 : Int) (a1_2 : ByteArray) : Option (Bool) := if a1_0 = true then (some (decide (a0_1 > 0))) else ((zone_some.f a0_0 a0_1 a0_2 a0_3 a0_4 a0_5 a0_6 a0_7).bind fun t163 => (if t163 = true then ((cell_Order.f k a1_0 a1_1 a1_2 a0_2 a0_3 a0_4).bind fun t164 => (if t164 ≥ 0 then ((cell_Order.f k a1_0 a1_1 a1_2 a0_5 a0_6 a0_7).bind fun t165 => (some (decide (t165 ≤ 0)))) else (some false))) else (some false)))
theorem zone_Has.mono : ∀ a0 a1 a2 a3 a4 a5 a6 a7 a8 a9 a10 k, LeO (zone_Has.f k a0 a1 a2 a3 a4 a5 a6 a7 a8 a9 a10) (zone_Has.f (k + 1) a0 a1 a2 a3 a4 a5 a6 a7 a8 a9 a10) := by
 intro a0 a1 a2 a3 a4 a5 a6 a7 a8 a9 a10 k
 unfold zone_Has.f
 repeat' first
   | (with_reducible exact cell_Order.mono _ _ _ _ _ _ _)
   | (with_reducible exact LeO.refl _)
   | (with_reducible exact LeO.none _)
   | (with_reducible refine LeO.ite ?_ ?_)
   | (with_reducible refine LeO.bind ?_ (fun _ => ?_))
   | exact cell_Order.mono _ _ _ _ _ _ _
   | exact LeO.none _
   | refine LeO.ite ?_ ?_
   | refine LeO.bind ?_ (fun _ => ?_)
set_option maxHeartbeats 8000000 in
set_option maxRecDepth 100000 in
theorem zone_Has.calls (k : Nat) (a0_0 : Int) (a0_1 : Int) (a0_2 : Bool) (a0_3 : Int) (a0_4 : ByteArray) (a0_5 : Bool) (a0_6 : Int) (a0_7 : ByteArray) (a1_0 : Bool) (a1_1 : Int) (a1_2 : ByteArray) (r : Bool) (w : World) (h : zone_Has.f k a0_0 a0_1 a0_2 a0_3 a0_4 a0_5 a0_6 a0_7 a1_0 a1_1 a1_2 = some r) :
  Calls Try.prog 97 #[.agg #[.int .i64 a0_0, .int .i64 a0_1, .bool a0_2, .int .i64 a0_3, .string a0_4, .bool a0_5, .int .i64 a0_6, .string a0_7], .agg #[.bool a1_0, .int .i64 a1_1, .string a1_2]] w fun e w' => e = .returned (.bool r) ∧ Below w.heap.size w w' := by
 have hu33 := Try.underlying33
 have hu24 := Try.underlying24
 have HB := Aside0.mk (Below.refl w.heap.size w)
 have H : (if a1_0 = true then (some (decide (a0_1 > 0))) else ((zone_some.f a0_0 a0_1 a0_2 a0_3 a0_4 a0_5 a0_6 a0_7).bind fun t163 => (if t163 = true then ((cell_Order.f k a1_0 a1_1 a1_2 a0_2 a0_3 a0_4).bind fun t164 => (if t164 ≥ 0 then ((cell_Order.f k a1_0 a1_1 a1_2 a0_5 a0_6 a0_7).bind fun t165 => (some (decide (t165 ≤ 0)))) else (some false))) else (some false)))) = some r := h
 clear h
 by_cases c3 : a1_0 = true
 ·subst c3
  have H1 : (some (decide (a0_1 > 0))) = some r := by rw [if_pos rfl] at H; exact H
  clear H
  have H := H1
  clear H1
  obtain rfl := Option.some.inj H
  go_enter Try.func97, Try.ntmps97
  go_wp2_with (first | (refine bx_ (N := 2) (cs := #[.int .i64 a0_0, .int .i64 a0_1, .bool a0_2, .int .i64 a0_3, .string a0_4, .bool a0_5, .int .i64 a0_6, .string a0_7]) (t := 33) ?_; intro gb161 hg w4 hbox hb; have BK161 := Aside0.mk (hbox); have GW161 := ge_ HB hg; have GE161 := ge_ HB hg; replace HB := bs_ HB hb; clear hb hbox hg) | (refine bx_ (N := 3) (cs := #[.bool true, .int .i64 a1_1, .string a1_2]) (t := 24) ?_; intro gb162 hg w5 hbox hb; have BK162 := Aside0.mk (hbox); have GW162 := ge_ HB hg; have GE162 := ge_ HB hg; have NB161_162 := lt_ BK161 hg; have NB162_161 := gt_ BK161 hg; replace BK161 := bk_ BK161 hb; replace HB := bs_ HB hb; clear hb hbox hg; have hnb6 := NB162_161.out; have hnc6 := NB161_162.out; obtain ⟨C7_0, C7_1, C7_2⟩ := zc3_ BK162.out; obtain ⟨F7_0, F7_1, F7_2⟩ := zf3_ BK162.out; obtain ⟨C8_0, C8_1, C8_2, C8_3, C8_4, C8_5, C8_6, C8_7⟩ := zc8_ BK161.out; obtain ⟨F8_0, F8_1, F8_2, F8_3, F8_4, F8_5, F8_6, F8_7⟩ := zf8_ BK161.out))
  go_ret
  exact en_ HB
 ·replace c3 := Bool.eq_false_iff.mpr c3
  subst c3
  have H1 : ((zone_some.f a0_0 a0_1 a0_2 a0_3 a0_4 a0_5 a0_6 a0_7).bind fun t163 => (if t163 = true then ((cell_Order.f k false a1_1 a1_2 a0_2 a0_3 a0_4).bind fun t164 => (if t164 ≥ 0 then ((cell_Order.f k false a1_1 a1_2 a0_5 a0_6 a0_7).bind fun t165 => (some (decide (t165 ≤ 0)))) else (some false))) else (some false))) = some r := by rw [if_neg (show ¬ (false = true) by decide)] at H; exact H
  clear H
  have H := H1
  clear H1
  replace H := Option.bind_eq_some_iff.mp H
  obtain ⟨t163, A90, H⟩ := H
  replace H : (if t163 = true then ((cell_Order.f k false a1_1 a1_2 a0_2 a0_3 a0_4).bind fun t164 => (if t164 ≥ 0 then ((cell_Order.f k false a1_1 a1_2 a0_5 a0_6 a0_7).bind fun t165 => (some (decide (t165 ≤ 0)))) else (some false))) else (some false)) = some r := H
  have A9 := Aside0.mk A90
  clear A90
  by_cases c10 : t163 = true
  ·subst c10
   have H1 : ((cell_Order.f k false a1_1 a1_2 a0_2 a0_3 a0_4).bind fun t164 => (if t164 ≥ 0 then ((cell_Order.f k false a1_1 a1_2 a0_5 a0_6 a0_7).bind fun t165 => (some (decide (t165 ≤ 0)))) else (some false))) = some r := by rw [if_pos rfl] at H; exact H
   clear H
   have H := H1
   clear H1
   replace H := Option.bind_eq_some_iff.mp H
   obtain ⟨t164, A110, H⟩ := H
   replace H : (if t164 ≥ 0 then ((cell_Order.f k false a1_1 a1_2 a0_5 a0_6 a0_7).bind fun t165 => (some (decide (t165 ≤ 0)))) else (some false)) = some r := H
   have A11 := Aside0.mk A110
   clear A110
   by_cases c12 : t164 ≥ 0
   ·rw [if_pos c12] at H
    have c12b0 : decide (0 ≤ t164) = true := decide_eq_true c12
    clear c12
    replace H := Option.bind_eq_some_iff.mp H
    obtain ⟨t165, A130, H⟩ := H
    replace H : (some (decide (t165 ≤ 0))) = some r := H
    have A13 := Aside0.mk A130
    clear A130
    obtain rfl := Option.some.inj H
    go_enter Try.func97, Try.ntmps97
    go_wp2_with (first | (refine bx_ (N := 2) (cs := #[.int .i64 a0_0, .int .i64 a0_1, .bool a0_2, .int .i64 a0_3, .string a0_4, .bool a0_5, .int .i64 a0_6, .string a0_7]) (t := 33) ?_; intro gb161 hg w14 hbox hb; have BK161 := Aside0.mk (hbox); have GW161 := ge_ HB hg; have GE161 := ge_ HB hg; replace HB := bs_ HB hb; clear hb hbox hg) | (refine bx_ (N := 3) (cs := #[.bool false, .int .i64 a1_1, .string a1_2]) (t := 24) ?_; intro gb162 hg w15 hbox hb; have BK162 := Aside0.mk (hbox); have GW162 := ge_ HB hg; have GE162 := ge_ HB hg; have NB161_162 := lt_ BK161 hg; have NB162_161 := gt_ BK161 hg; replace BK161 := bk_ BK161 hb; replace HB := bs_ HB hb; clear hb hbox hg; have hnb16 := NB162_161.out; have hnc16 := NB161_162.out; obtain ⟨C17_0, C17_1, C17_2⟩ := zc3_ BK162.out; obtain ⟨F17_0, F17_1, F17_2⟩ := zf3_ BK162.out; obtain ⟨C18_0, C18_1, C18_2, C18_3, C18_4, C18_5, C18_6, C18_7⟩ := zc8_ BK161.out; obtain ⟨F18_0, F18_1, F18_2, F18_3, F18_4, F18_5, F18_6, F18_7⟩ := zf8_ BK161.out) | ((with_reducible refine gate_callee (f := 48) rfl ?_); refine gl_ (some 11) rfl Try.func48 #[.agg #[.int .i64 a0_0, .int .i64 a0_1, .bool a0_2, .int .i64 a0_3, .string a0_4, .bool a0_5, .int .i64 a0_6, .string a0_7]] ?_; (with_reducible refine (zone_some.calls a0_0 a0_1 a0_2 a0_3 a0_4 a0_5 a0_6 a0_7 true _ A9.out).mono ?_); rintro e w19 ⟨rfl, hb⟩; refine ⟨_, rfl, ?_⟩;  replace BK161 := bk_ BK161 hb; replace BK162 := bk_ BK162 hb; replace HB := bs_ HB hb; (try clear hb); obtain ⟨C20_0, C20_1, C20_2⟩ := zc3_ BK162.out; obtain ⟨F20_0, F20_1, F20_2⟩ := zf3_ BK162.out; obtain ⟨C21_0, C21_1, C21_2, C21_3, C21_4, C21_5, C21_6, C21_7⟩ := zc8_ BK161.out; obtain ⟨F21_0, F21_1, F21_2, F21_3, F21_4, F21_5, F21_6, F21_7⟩ := zf8_ BK161.out) | (go_at_call 50; (with_reducible refine (cell_Order.calls k false a1_1 a1_2 a0_2 a0_3 a0_4 t164 _ A11.out).mono ?_); rintro e w22 ⟨rfl, hb⟩;  replace BK161 := bk_ BK161 hb; replace BK162 := bk_ BK162 hb; replace HB := bs_ HB hb; (try clear hb); obtain ⟨C23_0, C23_1, C23_2⟩ := zc3_ BK162.out; obtain ⟨F23_0, F23_1, F23_2⟩ := zf3_ BK162.out; obtain ⟨C24_0, C24_1, C24_2, C24_3, C24_4, C24_5, C24_6, C24_7⟩ := zc8_ BK161.out; obtain ⟨F24_0, F24_1, F24_2, F24_3, F24_4, F24_5, F24_6, F24_7⟩ := zf8_ BK161.out) | (go_at_call 50; (with_reducible refine (cell_Order.calls k false a1_1 a1_2 a0_5 a0_6 a0_7 t165 _ A13.out).mono ?_); rintro e w25 ⟨rfl, hb⟩;  replace BK161 := bk_ BK161 hb; replace BK162 := bk_ BK162 hb; replace HB := bs_ HB hb; (try clear hb)))
    go_ret
    exact en_ HB
   ·rw [if_neg c12] at H
    have c12b0 : decide (0 ≤ t164) = false := decide_eq_false c12
    clear c12
    obtain rfl := Option.some.inj H
    go_enter Try.func97, Try.ntmps97
    go_wp2_with (first | (refine bx_ (N := 2) (cs := #[.int .i64 a0_0, .int .i64 a0_1, .bool a0_2, .int .i64 a0_3, .string a0_4, .bool a0_5, .int .i64 a0_6, .string a0_7]) (t := 33) ?_; intro gb161 hg w26 hbox hb; have BK161 := Aside0.mk (hbox); have GW161 := ge_ HB hg; have GE161 := ge_ HB hg; replace HB := bs_ HB hb; clear hb hbox hg) | (refine bx_ (N := 3) (cs := #[.bool false, .int .i64 a1_1, .string a1_2]) (t := 24) ?_; intro gb162 hg w27 hbox hb; have BK162 := Aside0.mk (hbox); have GW162 := ge_ HB hg; have GE162 := ge_ HB hg; have NB161_162 := lt_ BK161 hg; have NB162_161 := gt_ BK161 hg; replace BK161 := bk_ BK161 hb; replace HB := bs_ HB hb; clear hb hbox hg; have hnb28 := NB162_161.out; have hnc28 := NB161_162.out; obtain ⟨C29_0, C29_1, C29_2⟩ := zc3_ BK162.out; obtain ⟨F29_0, F29_1, F29_2⟩ := zf3_ BK162.out; obtain ⟨C30_0, C30_1, C30_2, C30_3, C30_4, C30_5, C30_6, C30_7⟩ := zc8_ BK161.out; obtain ⟨F30_0, F30_1, F30_2, F30_3, F30_4, F30_5, F30_6, F30_7⟩ := zf8_ BK161.out) | ((with_reducible refine gate_callee (f := 48) rfl ?_); refine gl_ (some 11) rfl Try.func48 #[.agg #[.int .i64 a0_0, .int .i64 a0_1, .bool a0_2, .int .i64 a0_3, .string a0_4, .bool a0_5, .int .i64 a0_6, .string a0_7]] ?_; (with_reducible refine (zone_some.calls a0_0 a0_1 a0_2 a0_3 a0_4 a0_5 a0_6 a0_7 true _ A9.out).mono ?_); rintro e w31 ⟨rfl, hb⟩; refine ⟨_, rfl, ?_⟩;  replace BK161 := bk_ BK161 hb; replace BK162 := bk_ BK162 hb; replace HB := bs_ HB hb; (try clear hb); obtain ⟨C32_0, C32_1, C32_2⟩ := zc3_ BK162.out; obtain ⟨F32_0, F32_1, F32_2⟩ := zf3_ BK162.out; obtain ⟨C33_0, C33_1, C33_2, C33_3, C33_4, C33_5, C33_6, C33_7⟩ := zc8_ BK161.out; obtain ⟨F33_0, F33_1, F33_2, F33_3, F33_4, F33_5, F33_6, F33_7⟩ := zf8_ BK161.out) | (go_at_call 50; (with_reducible refine (cell_Order.calls k false a1_1 a1_2 a0_2 a0_3 a0_4 t164 _ A11.out).mono ?_); rintro e w34 ⟨rfl, hb⟩;  replace BK161 := bk_ BK161 hb; replace BK162 := bk_ BK162 hb; replace HB := bs_ HB hb; (try clear hb)))
    go_ret
    exact en_ HB
  ·replace c10 := Bool.eq_false_iff.mpr c10
   subst c10
   have H1 : (some false) = some r := by rw [if_neg (show ¬ (false = true) by decide)] at H; exact H
   clear H
   have H := H1
   clear H1
   obtain rfl := Option.some.inj H
   go_enter Try.func97, Try.ntmps97
   go_wp2_with (first | (refine bx_ (N := 2) (cs := #[.int .i64 a0_0, .int .i64 a0_1, .bool a0_2, .int .i64 a0_3, .string a0_4, .bool a0_5, .int .i64 a0_6, .string a0_7]) (t := 33) ?_; intro gb161 hg w35 hbox hb; have BK161 := Aside0.mk (hbox); have GW161 := ge_ HB hg; have GE161 := ge_ HB hg; replace HB := bs_ HB hb; clear hb hbox hg) | (refine bx_ (N := 3) (cs := #[.bool false, .int .i64 a1_1, .string a1_2]) (t := 24) ?_; intro gb162 hg w36 hbox hb; have BK162 := Aside0.mk (hbox); have GW162 := ge_ HB hg; have GE162 := ge_ HB hg; have NB161_162 := lt_ BK161 hg; have NB162_161 := gt_ BK161 hg; replace BK161 := bk_ BK161 hb; replace HB := bs_ HB hb; clear hb hbox hg; have hnb37 := NB162_161.out; have hnc37 := NB161_162.out; obtain ⟨C38_0, C38_1, C38_2⟩ := zc3_ BK162.out; obtain ⟨F38_0, F38_1, F38_2⟩ := zf3_ BK162.out; obtain ⟨C39_0, C39_1, C39_2, C39_3, C39_4, C39_5, C39_6, C39_7⟩ := zc8_ BK161.out; obtain ⟨F39_0, F39_1, F39_2, F39_3, F39_4, F39_5, F39_6, F39_7⟩ := zf8_ BK161.out) | ((with_reducible refine gate_callee (f := 48) rfl ?_); refine gl_ (some 11) rfl Try.func48 #[.agg #[.int .i64 a0_0, .int .i64 a0_1, .bool a0_2, .int .i64 a0_3, .string a0_4, .bool a0_5, .int .i64 a0_6, .string a0_7]] ?_; (with_reducible refine (zone_some.calls a0_0 a0_1 a0_2 a0_3 a0_4 a0_5 a0_6 a0_7 false _ A9.out).mono ?_); rintro e w40 ⟨rfl, hb⟩; refine ⟨_, rfl, ?_⟩;  replace BK161 := bk_ BK161 hb; replace BK162 := bk_ BK162 hb; replace HB := bs_ HB hb; (try clear hb)))
   go_ret
   exact en_ HB
end Go.Proofs.Ytdedmhmomoejkaa.X
