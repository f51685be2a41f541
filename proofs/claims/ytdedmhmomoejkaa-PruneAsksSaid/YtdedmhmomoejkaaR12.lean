/- Words and walks for pruneAsks_holds, part 12 of the texts that a program of this session laid together. -/
import Derived.Test.YtdedmhmomoejkaaR1
import Derived.Test.YtdedmhmomoejkaaR8
import Derived.Test.YtdedmhmomoejkaaR11
namespace Go.Proofs.Ytdedmhmomoejkaa.X
open Go.RowKit Go.Proofs.YtdedmhmomoejkaaW.PrintWords Go.Proofs.YtdedmhmomoejkaaW.PrintLast Go.Proofs.YtdedmhmomoejkaaW.PrintMore
attribute [local go_sem] max2_int max_two
set_option linter.unusedVariables false
set_option linter.unusedSimpArgs false
attribute [local go_sem high] eqA24
def firkinref11_May.j0 : Nat → Int → Bool → Int → Int → Bool → Int → ByteArray → Bool → Int → ByteArray → Option (Bool)
 | 0, _, _, _, _, _, _, _, _, _, _ => none
 | k + 1, x0, x32, x301000, x301001, x301002, x301003, x301004, x301005, x301006, x301007 => if x32 = true then (some false) else (if x301001 = x301000 then (if (!x301002 && (x301003 == 0 && (x301004.toList.isEmpty))) = true then (some (!x301005 && (x301006 == 0 && (x301007.toList.isEmpty)))) else (some false)) else ((firkinref09_May.f k x0 false x301002 x301003 x301004).bind fun t301 => (if t301 = true then ((firkinref09_May.f k x0 false x301005 x301006 x301007).bind fun t302 => (if t302 = true then ((firkinref09_Order.f k x301002 x301003 x301004 x301005 x301006 x301007).bind fun t303 => (some (decide (t303 ≤ 0)))) else (some false))) else (some false))))
def firkinref11_May.f (k : Nat) (a0 : Int) (a1_0 : Int) (a1_1 : Int) (a1_2 : Bool) (a1_3 : Int) (a1_4 : ByteArray) (a1_5 : Bool) (a1_6 : Int) (a1_7 : ByteArray) : Option (Bool) := if a0 < 1 then (firkinref11_May.j0 k a0 true a1_0 a1_1 a1_2 a1_3 a1_4 a1_5 a1_6 a1_7) else (if a0 > 3 then (firkinref11_May.j0 k a0 true a1_0 a1_1 a1_2 a1_3 a1_4 a1_5 a1_6 a1_7) else (if a1_0 < 0 then (firkinref11_May.j0 k a0 true a1_0 a1_1 a1_2 a1_3 a1_4 a1_5 a1_6 a1_7) else (if a1_0 > 4096 then (firkinref11_May.j0 k a0 true a1_0 a1_1 a1_2 a1_3 a1_4 a1_5 a1_6 a1_7) else (if a1_1 < 0 then (firkinref11_May.j0 k a0 true a1_0 a1_1 a1_2 a1_3 a1_4 a1_5 a1_6 a1_7) else (firkinref11_May.j0 k a0 (decide (a1_1 > a1_0)) a1_0 a1_1 a1_2 a1_3 a1_4 a1_5 a1_6 a1_7)))))
theorem firkinref11_May.mono_l : ∀ k, (∀ y0 y1 y2 y3 y4 y5 y6 y7 y8 y9, LeO (firkinref11_May.j0 k y0 y1 y2 y3 y4 y5 y6 y7 y8 y9) (firkinref11_May.j0 (k + 1) y0 y1 y2 y3 y4 y5 y6 y7 y8 y9))
 | 0 => fun _ _ _ _ _ _ _ _ _ _ r h => by simp [firkinref11_May.j0] at h
 | k + 1 => by
  have ih0 := firkinref11_May.mono_l k
  ·intro y0 y1 y2 y3 y4 y5 y6 y7 y8 y9
   unfold firkinref11_May.j0
   repeat' first
   | (with_reducible exact ih0 _ _ _ _ _ _ _ _ _ _)
   | (with_reducible exact firkinref09_May.mono _ _ _ _ _ _)
   | (with_reducible exact firkinref09_Order.mono _ _ _ _ _ _ _)
   | (with_reducible exact LeO.refl _)
   | (with_reducible exact LeO.none _)
   | (with_reducible refine LeO.ite ?_ ?_)
   | (with_reducible refine LeO.bind ?_ (fun _ => ?_))
   | exact ih0 _ _ _ _ _ _ _ _ _ _
   | exact firkinref09_May.mono _ _ _ _ _ _
   | exact firkinref09_Order.mono _ _ _ _ _ _ _
   | exact LeO.none _
   | refine LeO.ite ?_ ?_
   | refine LeO.bind ?_ (fun _ => ?_)
theorem firkinref11_May.mono : ∀ a0 a1 a2 a3 a4 a5 a6 a7 a8 k, LeO (firkinref11_May.f k a0 a1 a2 a3 a4 a5 a6 a7 a8) (firkinref11_May.f (k + 1) a0 a1 a2 a3 a4 a5 a6 a7 a8) := by
 intro a0 a1 a2 a3 a4 a5 a6 a7 a8 k
 have ih0 := firkinref11_May.mono_l k
 unfold firkinref11_May.f
 repeat' first
   | (with_reducible exact ih0 _ _ _ _ _ _ _ _ _ _)
   | (with_reducible exact firkinref09_May.mono _ _ _ _ _ _)
   | (with_reducible exact firkinref09_Order.mono _ _ _ _ _ _ _)
   | (with_reducible exact LeO.refl _)
   | (with_reducible exact LeO.none _)
   | (with_reducible refine LeO.ite ?_ ?_)
   | (with_reducible refine LeO.bind ?_ (fun _ => ?_))
   | exact ih0 _ _ _ _ _ _ _ _ _ _
   | exact firkinref09_May.mono _ _ _ _ _ _
   | exact firkinref09_Order.mono _ _ _ _ _ _ _
   | exact LeO.none _
   | refine LeO.ite ?_ ?_
   | refine LeO.bind ?_ (fun _ => ?_)
set_option maxHeartbeats 8000000 in
set_option maxRecDepth 100000 in
theorem firkinref11_May.calls (k : Nat) (a0 : Int) (a1_0 : Int) (a1_1 : Int) (a1_2 : Bool) (a1_3 : Int) (a1_4 : ByteArray) (a1_5 : Bool) (a1_6 : Int) (a1_7 : ByteArray) (r : Bool) (w : World) (h : firkinref11_May.f k a0 a1_0 a1_1 a1_2 a1_3 a1_4 a1_5 a1_6 a1_7 = some r) :
  Calls Try.prog 31 #[.int .i64 a0, .agg #[.int .i64 a1_0, .int .i64 a1_1, .bool a1_2, .int .i64 a1_3, .string a1_4, .bool a1_5, .int .i64 a1_6, .string a1_7]] w fun e w' => e = .returned (.bool r) ∧ Below w.heap.size w w' := by
 have hu33 := Try.underlying33
 have hu24 := Try.underlying24
 have HB := Aside0.mk (Below.refl w.heap.size w)
 have H : (if a0 < 1 then (firkinref11_May.j0 k a0 true a1_0 a1_1 a1_2 a1_3 a1_4 a1_5 a1_6 a1_7) else (if a0 > 3 then (firkinref11_May.j0 k a0 true a1_0 a1_1 a1_2 a1_3 a1_4 a1_5 a1_6 a1_7) else (if a1_0 < 0 then (firkinref11_May.j0 k a0 true a1_0 a1_1 a1_2 a1_3 a1_4 a1_5 a1_6 a1_7) else (if a1_0 > 4096 then (firkinref11_May.j0 k a0 true a1_0 a1_1 a1_2 a1_3 a1_4 a1_5 a1_6 a1_7) else (if a1_1 < 0 then (firkinref11_May.j0 k a0 true a1_0 a1_1 a1_2 a1_3 a1_4 a1_5 a1_6 a1_7) else (firkinref11_May.j0 k a0 (decide (a1_1 > a1_0)) a1_0 a1_1 a1_2 a1_3 a1_4 a1_5 a1_6 a1_7)))))) = some r := h
 clear h
 have HC3 := Aside0.mk H
 clear H
 go_enter Try.func31, Try.ntmps31
 go_upto_region 1 with (first | (refine bx_ (N := 3) (cs := #[.int .i64 a1_0, .int .i64 a1_1, .bool a1_2, .int .i64 a1_3, .string a1_4, .bool a1_5, .int .i64 a1_6, .string a1_7]) (t := 33) ?_; intro gb300 hg w4 hbox hb; have BK300 := Aside0.mk (hbox); have GW300 := ge_ HB hg; have GE300 := ge_ HB hg; replace HB := bs_ HB hb; clear hb hbox hg))
 (try simp only [Act.put, List.setIfInBounds_toArray, List.set_cons_zero, List.set_cons_succ])
 go_cut [32] (fun v32 wc => ∃ (kq : Nat) (x32_2 : Bool), v32 = .bool x32_2 ∧ Aside0 (firkinref11_May.j0 kq a0 x32_2 a1_0 a1_1 a1_2 a1_3 a1_4 a1_5 a1_6 a1_7 = some r) ∧ Aside0 (kq ≤ k) ∧ Aside0 (wc.heap[gb300]? = some (.cells #[.int .i64 a1_0, .int .i64 a1_1, .bool a1_2, .int .i64 a1_3, .string a1_4, .bool a1_5, .int .i64 a1_6, .string a1_7] 33 (0, 0))) ∧ Aside0 (Below w.heap.size w wc))
 case first =>
  have H := HC3.out
  clear HC3
  by_cases c5 : a0 < 1
  ·rw [if_pos c5] at H
   have c5b0 : decide (a0 < 1) = true := decide_eq_true c5
   clear c5
   (first | rw [c5b0] | (simp only [i64_w, i32_w]; rw [c5b0]) | skip)
   have H' := Aside0.mk H
   clear H
   go_wp2
   go_meet
   case rel => exact ⟨_, (true), (by first | rfl | (simp; done) | (simp [*]; done)), H', ⟨by first | omega | exact Nat.le_refl _⟩, ⟨by (with_reducible repeat (first | refine blk_drewN ?_ _ | refine blk_drew ?_ | refine blk_alloc ?_ _)); exact BK300.out⟩, ⟨by repeat (first | (with_reducible first | exact HB.out | apply below_alloc | apply pw_below_drewN | apply below_drew1 | refine below_set ?_ GE300.out) | exact HB.out)⟩⟩
  ·rw [if_neg c5] at H
   have c5b0 : decide (a0 < 1) = false := decide_eq_false c5
   clear c5
   (first | rw [c5b0] | (simp only [i64_w, i32_w]; rw [c5b0]) | skip)
   by_cases c6 : a0 > 3
   ·rw [if_pos c6] at H
    have c6b0 : decide (3 < a0) = true := decide_eq_true c6
    clear c6
    have H' := Aside0.mk H
    clear H
    go_wp2
    go_meet
    case rel => exact ⟨_, (true), (by first | rfl | (simp; done) | (simp [*]; done)), H', ⟨by first | omega | exact Nat.le_refl _⟩, ⟨by (with_reducible repeat (first | refine blk_drewN ?_ _ | refine blk_drew ?_ | refine blk_alloc ?_ _)); exact BK300.out⟩, ⟨by repeat (first | (with_reducible first | exact HB.out | apply below_alloc | apply pw_below_drewN | apply below_drew1 | refine below_set ?_ GE300.out) | exact HB.out)⟩⟩
   ·rw [if_neg c6] at H
    have c6b0 : decide (3 < a0) = false := decide_eq_false c6
    clear c6
    by_cases c7 : a1_0 < 0
    ·rw [if_pos c7] at H
     have c7b0 : decide (a1_0 < 0) = true := decide_eq_true c7
     clear c7
     have H' := Aside0.mk H
     clear H
     obtain ⟨C8_0, C8_1, C8_2, C8_3, C8_4, C8_5, C8_6, C8_7⟩ := cz8_ BK300.out
     obtain ⟨F8_0, F8_1, F8_2, F8_3, F8_4, F8_5, F8_6, F8_7⟩ := fz8_ BK300.out
     go_wp2
     go_meet
     case rel => exact ⟨_, (true), (by first | rfl | (simp; done) | (simp [*]; done)), H', ⟨by first | omega | exact Nat.le_refl _⟩, ⟨by (with_reducible repeat (first | refine blk_drewN ?_ _ | refine blk_drew ?_ | refine blk_alloc ?_ _)); exact BK300.out⟩, ⟨by repeat (first | (with_reducible first | exact HB.out | apply below_alloc | apply pw_below_drewN | apply below_drew1 | refine below_set ?_ GE300.out) | exact HB.out)⟩⟩
    ·rw [if_neg c7] at H
     have c7b0 : decide (a1_0 < 0) = false := decide_eq_false c7
     clear c7
     by_cases c9 : a1_0 > 4096
     ·rw [if_pos c9] at H
      have c9b0 : decide (4096 < a1_0) = true := decide_eq_true c9
      clear c9
      have H' := Aside0.mk H
      clear H
      obtain ⟨C10_0, C10_1, C10_2, C10_3, C10_4, C10_5, C10_6, C10_7⟩ := cz8_ BK300.out
      obtain ⟨F10_0, F10_1, F10_2, F10_3, F10_4, F10_5, F10_6, F10_7⟩ := fz8_ BK300.out
      go_wp2
      go_meet
      case rel => exact ⟨_, (true), (by first | rfl | (simp; done) | (simp [*]; done)), H', ⟨by first | omega | exact Nat.le_refl _⟩, ⟨by (with_reducible repeat (first | refine blk_drewN ?_ _ | refine blk_drew ?_ | refine blk_alloc ?_ _)); exact BK300.out⟩, ⟨by repeat (first | (with_reducible first | exact HB.out | apply below_alloc | apply pw_below_drewN | apply below_drew1 | refine below_set ?_ GE300.out) | exact HB.out)⟩⟩
     ·rw [if_neg c9] at H
      have c9b0 : decide (4096 < a1_0) = false := decide_eq_false c9
      clear c9
      by_cases c11 : a1_1 < 0
      ·rw [if_pos c11] at H
       have c11b0 : decide (a1_1 < 0) = true := decide_eq_true c11
       clear c11
       have H' := Aside0.mk H
       clear H
       obtain ⟨C12_0, C12_1, C12_2, C12_3, C12_4, C12_5, C12_6, C12_7⟩ := cz8_ BK300.out
       obtain ⟨F12_0, F12_1, F12_2, F12_3, F12_4, F12_5, F12_6, F12_7⟩ := fz8_ BK300.out
       go_wp2
       go_meet
       case rel => exact ⟨_, (true), (by first | rfl | (simp; done) | (simp [*]; done)), H', ⟨by first | omega | exact Nat.le_refl _⟩, ⟨by (with_reducible repeat (first | refine blk_drewN ?_ _ | refine blk_drew ?_ | refine blk_alloc ?_ _)); exact BK300.out⟩, ⟨by repeat (first | (with_reducible first | exact HB.out | apply below_alloc | apply pw_below_drewN | apply below_drew1 | refine below_set ?_ GE300.out) | exact HB.out)⟩⟩
      ·rw [if_neg c11] at H
       have c11b0 : decide (a1_1 < 0) = false := decide_eq_false c11
       clear c11
       have H' := Aside0.mk H
       clear H
       obtain ⟨C13_0, C13_1, C13_2, C13_3, C13_4, C13_5, C13_6, C13_7⟩ := cz8_ BK300.out
       obtain ⟨F13_0, F13_1, F13_2, F13_3, F13_4, F13_5, F13_6, F13_7⟩ := fz8_ BK300.out
       go_wp2
       go_meet
       case rel => exact ⟨_, (decide (a1_1 > a1_0)), (by first | rfl | (simp; done) | (simp [*]; done)), H', ⟨by first | omega | exact Nat.le_refl _⟩, ⟨by (with_reducible repeat (first | refine blk_drewN ?_ _ | refine blk_drew ?_ | refine blk_alloc ?_ _)); exact BK300.out⟩, ⟨by repeat (first | (with_reducible first | exact HB.out | apply below_alloc | apply pw_below_drewN | apply below_drew1 | refine below_set ?_ GE300.out) | exact HB.out)⟩⟩
 case rest =>
  clear HC3
  try clear c1
  try clear p2
  try clear c3
  try clear c5
  try clear c5b0
  try clear c6
  try clear c6b0
  try clear c7
  try clear c7b0
  try clear c9
  try clear c9b0
  try clear c11
  try clear c11b0
  try clear C10_0 C10_1 C10_2 C10_3 C10_4 C10_5 C10_6 C10_7
  try clear C12_0 C12_1 C12_2 C12_3 C12_4 C12_5 C12_6 C12_7
  try clear C13_0 C13_1 C13_2 C13_3 C13_4 C13_5 C13_6 C13_7
  try clear C8_0 C8_1 C8_2 C8_3 C8_4 C8_5 C8_6 C8_7
  try clear F10_0 F10_1 F10_2 F10_3 F10_4 F10_5 F10_6 F10_7
  try clear F12_0 F12_1 F12_2 F12_3 F12_4 F12_5 F12_6 F12_7
  try clear F13_0 F13_1 F13_2 F13_3 F13_4 F13_5 F13_6 F13_7
  try clear F8_0 F8_1 F8_2 F8_3 F8_4 F8_5 F8_6 F8_7
  obtain ⟨kq, x32_2, rfl, HA, HJ2, BK300, HB⟩ := hcut
  cases kq with
  | zero => exact absurd HA.out (by simp [firkinref11_May.j0])
  | succ kj2 =>
   have H := HA.out
   clear HA
   simp only [firkinref11_May.j0] at H
   by_cases c14 : x32_2 = true
   ·subst c14
    have H1 : (some false) = some r := by rw [if_pos rfl] at H; exact H
    clear H
    have H := H1
    clear H1
    obtain rfl := Option.some.inj H
    go_wp2
    go_ret
    exact en_ HB
   ·replace c14 := Bool.eq_false_iff.mpr c14
    subst c14
    have H1 : (if a1_1 = a1_0 then (if (!a1_2 && (a1_3 == 0 && (a1_4.toList.isEmpty))) = true then (some (!a1_5 && (a1_6 == 0 && (a1_7.toList.isEmpty)))) else (some false)) else ((firkinref09_May.f kj2 a0 false a1_2 a1_3 a1_4).bind fun t301 => (if t301 = true then ((firkinref09_May.f kj2 a0 false a1_5 a1_6 a1_7).bind fun t302 => (if t302 = true then ((firkinref09_Order.f kj2 a1_2 a1_3 a1_4 a1_5 a1_6 a1_7).bind fun t303 => (some (decide (t303 ≤ 0)))) else (some false))) else (some false)))) = some r := by rw [if_neg (show ¬ (false = true) by decide)] at H; exact H
    clear H
    have H := H1
    clear H1
    by_cases c15 : a1_1 = a1_0
    ·rw [if_pos c15] at H
     have c15b0 : (a1_1 == a1_0) = true := beq_iff_eq.mpr c15
     have c15b1 : (a1_1 != a1_0) = false := bne_eq_false_iff_eq.mpr c15
     clear c15
     by_cases c16 : (!a1_2 && (a1_3 == 0 && (a1_4.toList.isEmpty))) = true
     ·rw [if_pos c16] at H
      have c16b0 : (!a1_2 && (a1_3 == 0 && (a1_4.toList.isEmpty))) = true := c16
      clear c16
      obtain rfl := Option.some.inj H
      obtain ⟨C17_0, C17_1, C17_2, C17_3, C17_4, C17_5, C17_6, C17_7⟩ := cz8_ BK300.out
      obtain ⟨F17_0, F17_1, F17_2, F17_3, F17_4, F17_5, F17_6, F17_7⟩ := fz8_ BK300.out
      go_wp2
      go_ret
      exact en_ HB
     ·rw [if_neg c16] at H
      have c16b0 : (!a1_2 && (a1_3 == 0 && (a1_4.toList.isEmpty))) = false := by simpa using c16
      clear c16
      obtain rfl := Option.some.inj H
      obtain ⟨C18_0, C18_1, C18_2, C18_3, C18_4, C18_5, C18_6, C18_7⟩ := cz8_ BK300.out
      obtain ⟨F18_0, F18_1, F18_2, F18_3, F18_4, F18_5, F18_6, F18_7⟩ := fz8_ BK300.out
      go_wp2
      go_ret
      exact en_ HB
    ·rw [if_neg c15] at H
     have c15b0 : (a1_1 == a1_0) = false := beq_eq_false_iff_ne.mpr c15
     have c15b1 : (a1_1 != a1_0) = true := bne_iff_ne.mpr c15
     replace H := Option.bind_eq_some_iff.mp H
     obtain ⟨t301, A190, H⟩ := H
     replace H : (if t301 = true then ((firkinref09_May.f kj2 a0 false a1_5 a1_6 a1_7).bind fun t302 => (if t302 = true then ((firkinref09_Order.f kj2 a1_2 a1_3 a1_4 a1_5 a1_6 a1_7).bind fun t303 => (some (decide (t303 ≤ 0)))) else (some false))) else (some false)) = some r := H
     have A19 := Aside0.mk A190
     clear A190
     by_cases c20 : t301 = true
     ·subst c20
      have H1 : ((firkinref09_May.f kj2 a0 false a1_5 a1_6 a1_7).bind fun t302 => (if t302 = true then ((firkinref09_Order.f kj2 a1_2 a1_3 a1_4 a1_5 a1_6 a1_7).bind fun t303 => (some (decide (t303 ≤ 0)))) else (some false))) = some r := by rw [if_pos rfl] at H; exact H
      clear H
      have H := H1
      clear H1
      replace H := Option.bind_eq_some_iff.mp H
      obtain ⟨t302, A210, H⟩ := H
      replace H : (if t302 = true then ((firkinref09_Order.f kj2 a1_2 a1_3 a1_4 a1_5 a1_6 a1_7).bind fun t303 => (some (decide (t303 ≤ 0)))) else (some false)) = some r := H
      have A21 := Aside0.mk A210
      clear A210
      by_cases c22 : t302 = true
      ·subst c22
       have H1 : ((firkinref09_Order.f kj2 a1_2 a1_3 a1_4 a1_5 a1_6 a1_7).bind fun t303 => (some (decide (t303 ≤ 0)))) = some r := by rw [if_pos rfl] at H; exact H
       clear H
       have H := H1
       clear H1
       replace H := Option.bind_eq_some_iff.mp H
       obtain ⟨t303, A230, H⟩ := H
       replace H : (some (decide (t303 ≤ 0))) = some r := H
       have A23 := Aside0.mk A230
       clear A230
       obtain rfl := Option.some.inj H
       obtain ⟨C24_0, C24_1, C24_2, C24_3, C24_4, C24_5, C24_6, C24_7⟩ := cz8_ BK300.out
       obtain ⟨F24_0, F24_1, F24_2, F24_3, F24_4, F24_5, F24_6, F24_7⟩ := fz8_ BK300.out
       go_wp2_with (first | ((with_reducible refine gate_callee (f := 57) rfl ?_); refine gl_ (some 51) rfl Try.func57 #[.int .i64 a0, .bool false, .agg #[.bool a1_2, .int .i64 a1_3, .string a1_4]] ?_; (with_reducible refine (firkinref09_May.calls kj2 a0 false a1_2 a1_3 a1_4 true _ A19.out).mono ?_); rintro e w25 ⟨rfl, hb⟩; refine ⟨_, rfl, ?_⟩;  replace BK300 := bk_ BK300 hb; replace HB := bs_ HB hb; (try clear hb); obtain ⟨C26_0, C26_1, C26_2, C26_3, C26_4, C26_5, C26_6, C26_7⟩ := zc8_ BK300.out; obtain ⟨F26_0, F26_1, F26_2, F26_3, F26_4, F26_5, F26_6, F26_7⟩ := zf8_ BK300.out) | (go_at_call 57; (with_reducible refine (firkinref09_May.calls kj2 a0 false a1_5 a1_6 a1_7 true _ A21.out).mono ?_); rintro e w27 ⟨rfl, hb⟩;  replace BK300 := bk_ BK300 hb; replace HB := bs_ HB hb; (try clear hb); obtain ⟨C28_0, C28_1, C28_2, C28_3, C28_4, C28_5, C28_6, C28_7⟩ := zc8_ BK300.out; obtain ⟨F28_0, F28_1, F28_2, F28_3, F28_4, F28_5, F28_6, F28_7⟩ := zf8_ BK300.out) | (go_at_call 35; (with_reducible refine (firkinref09_Order.calls kj2 a1_2 a1_3 a1_4 a1_5 a1_6 a1_7 t303 _ A23.out).mono ?_); rintro e w29 ⟨rfl, hb⟩;  replace BK300 := bk_ BK300 hb; replace HB := bs_ HB hb; (try clear hb)))
       go_ret
       exact en_ HB
      ·replace c22 := Bool.eq_false_iff.mpr c22
       subst c22
       have H1 : (some false) = some r := by rw [if_neg (show ¬ (false = true) by decide)] at H; exact H
       clear H
       have H := H1
       clear H1
       obtain rfl := Option.some.inj H
       obtain ⟨C30_0, C30_1, C30_2, C30_3, C30_4, C30_5, C30_6, C30_7⟩ := cz8_ BK300.out
       obtain ⟨F30_0, F30_1, F30_2, F30_3, F30_4, F30_5, F30_6, F30_7⟩ := fz8_ BK300.out
       go_wp2_with (first | ((with_reducible refine gate_callee (f := 57) rfl ?_); refine gl_ (some 51) rfl Try.func57 #[.int .i64 a0, .bool false, .agg #[.bool a1_2, .int .i64 a1_3, .string a1_4]] ?_; (with_reducible refine (firkinref09_May.calls kj2 a0 false a1_2 a1_3 a1_4 true _ A19.out).mono ?_); rintro e w31 ⟨rfl, hb⟩; refine ⟨_, rfl, ?_⟩;  replace BK300 := bk_ BK300 hb; replace HB := bs_ HB hb; (try clear hb); obtain ⟨C32_0, C32_1, C32_2, C32_3, C32_4, C32_5, C32_6, C32_7⟩ := zc8_ BK300.out; obtain ⟨F32_0, F32_1, F32_2, F32_3, F32_4, F32_5, F32_6, F32_7⟩ := zf8_ BK300.out) | (go_at_call 57; (with_reducible refine (firkinref09_May.calls kj2 a0 false a1_5 a1_6 a1_7 false _ A21.out).mono ?_); rintro e w33 ⟨rfl, hb⟩;  replace BK300 := bk_ BK300 hb; replace HB := bs_ HB hb; (try clear hb)))
       go_ret
       exact en_ HB
     ·replace c20 := Bool.eq_false_iff.mpr c20
      subst c20
      have H1 : (some false) = some r := by rw [if_neg (show ¬ (false = true) by decide)] at H; exact H
      clear H
      have H := H1
      clear H1
      obtain rfl := Option.some.inj H
      obtain ⟨C34_0, C34_1, C34_2, C34_3, C34_4, C34_5, C34_6, C34_7⟩ := cz8_ BK300.out
      obtain ⟨F34_0, F34_1, F34_2, F34_3, F34_4, F34_5, F34_6, F34_7⟩ := fz8_ BK300.out
      go_wp2_with (first | ((with_reducible refine gate_callee (f := 57) rfl ?_); refine gl_ (some 51) rfl Try.func57 #[.int .i64 a0, .bool false, .agg #[.bool a1_2, .int .i64 a1_3, .string a1_4]] ?_; (with_reducible refine (firkinref09_May.calls kj2 a0 false a1_2 a1_3 a1_4 false _ A19.out).mono ?_); rintro e w35 ⟨rfl, hb⟩; refine ⟨_, rfl, ?_⟩;  replace BK300 := bk_ BK300 hb; replace HB := bs_ HB hb; (try clear hb)))
      go_ret
      exact en_ HB
end Go.Proofs.Ytdedmhmomoejkaa.X
namespace Go.Proofs.Ytdedmhmomoejkaa.X
open Go.RowKit Go.Proofs.YtdedmhmomoejkaaW.PrintWords Go.Proofs.YtdedmhmomoejkaaW.PrintLast
set_option linter.unusedVariables false
set_option linter.unusedSimpArgs false
def emB (a : Bool) (b : Int) (c : ByteArray) : Bool := !a && (b == 0 && c.toList.isEmpty)
def cmB (ty : Int) (a : Bool) (b : Int) (c : ByteArray) : Bool := (cell_May.f ty false a b c).getD false
theorem cm_some (ty : Int) (a : Bool) (b : Int) (c : ByteArray) : cell_May.f ty false a b c = some (cmB ty a b c) := by
  obtain ⟨r, hr⟩ := cellMay_ans ty false a b c
  unfold cmB
  rw [hr]; rfl
def zmB (ty z0 z1 : Int) (z2 : Bool) (z3 : Int) (z4 : ByteArray) (z5 : Bool) (z6 : Int) (z7 : ByteArray) : Bool :=
  if (1 ≤ ty ∧ ty ≤ 3) ∧ (0 ≤ z0 ∧ z0 ≤ 4096) ∧ 0 ≤ z1 ∧ z1 ≤ z0 then (if z1 = z0 then emB z2 z3 z4 && emB z5 z6 z7 else cmB ty z2 z3 z4 && (cmB ty z5 z6 z7 && decide (ord z2 z3 z4 z5 z6 z7 ≤ 0))) else false
theorem zm11 (ty z0 z1 : Int) (z2 : Bool) (z3 : Int) (z4 : ByteArray) (z5 : Bool) (z6 : Int) (z7 : ByteArray) : TotP (fun r => r = zmB ty z0 z1 z2 z3 z4 z5 z6 z7) (fun k => firkinref11_May.f k ty z0 z1 z2 z3 z4 z5 z6 z7) := by
  have bad : ∀ t : Bool, t = true → ¬ ((1 ≤ ty ∧ ty ≤ 3) ∧ (0 ≤ z0 ∧ z0 ≤ 4096) ∧ 0 ≤ z1 ∧ z1 ≤ z0) → TotP (fun r => r = zmB ty z0 z1 z2 z3 z4 z5 z6 z7) (fun k => firkinref11_May.j0 k ty t z0 z1 z2 z3 z4 z5 z6 z7) := by
    intro t ht hn
    refine TotP.succ (fun k => by simp only [firkinref11_May.j0]; rfl) ?_
    exact TotP.ite (fun _ => TotP.some_ (by unfold zmB; rw [if_neg hn])) (fun h => absurd ht h)
  unfold firkinref11_May.f
  refine TotP.ite (fun h => bad _ rfl (by omega)) (fun h1 => ?_)
  refine TotP.ite (fun h => bad _ rfl (by omega)) (fun h2 => ?_)
  refine TotP.ite (fun h => bad _ rfl (by omega)) (fun h3 => ?_)
  refine TotP.ite (fun h => bad _ rfl (by omega)) (fun h4 => ?_)
  refine TotP.ite (fun h => bad _ rfl (by omega)) (fun h5 => ?_)
  by_cases h6 : z1 > z0
  · exact bad _ (decide_eq_true h6) (by omega)
  refine TotP.succ (fun k => by simp only [firkinref11_May.j0]; rfl) ?_
  refine TotP.ite (fun h => absurd (of_decide_eq_true h) h6) (fun _ => ?_)
  unfold zmB
  rw [if_pos (show (1 ≤ ty ∧ ty ≤ 3) ∧ (0 ≤ z0 ∧ z0 ≤ 4096) ∧ 0 ≤ z1 ∧ z1 ≤ z0 by omega)]
  refine TotP.ite (fun he => ?_) (fun he => ?_)
  · rw [if_pos he]
    refine TotP.ite (fun g => TotP.some_ ?_) (fun g => TotP.some_ ?_)
    · rw [show emB z2 z3 z4 = true from g]; rfl
    · rw [show emB z2 z3 z4 = false from Bool.eq_false_iff.2 g]; rfl
  · rw [if_neg he]
    refine TotP.bind (may09 _ _ _ _ _) (fun a ha => ?_)
    rw [cm_some] at ha
    have ha := Option.some.inj ha
    subst ha
    refine TotP.ite (fun g => ?_) (fun g => TotP.some_ (by rw [Bool.eq_false_iff.2 g]; rfl))
    refine TotP.bind (may09 _ _ _ _ _) (fun a ha => ?_)
    rw [cm_some] at ha
    have ha := Option.some.inj ha
    subst ha
    refine TotP.ite (fun g' => ?_) (fun g' => TotP.some_ (by rw [g, Bool.eq_false_iff.2 g']; rfl))
    refine TotP.bind (ord09 _ _ _ _ _ _) (fun o ho => TotP.some_ ?_)
    rw [ho, g, g']; rfl
theorem zm (ty z0 z1 : Int) (z2 : Bool) (z3 : Int) (z4 : ByteArray) (z5 : Bool) (z6 : Int) (z7 : ByteArray) : TotP (fun r => r = zmB ty z0 z1 z2 z3 z4 z5 z6 z7) (fun k => zone_May.f k ty z0 z1 z2 z3 z4 z5 z6 z7) := by
  have bad1 : ∀ t : Bool, t = true → ¬ ((1 ≤ ty ∧ ty ≤ 3) ∧ (0 ≤ z0 ∧ z0 ≤ 4096) ∧ 0 ≤ z1 ∧ z1 ≤ z0) → TotP (fun r => r = zmB ty z0 z1 z2 z3 z4 z5 z6 z7) (fun k => zone_May.j1 k ty t z0 z1 z2 z3 z4 z5 z6 z7) := by
    intro t ht hn
    refine TotP.succ (fun k => by simp only [zone_May.j1]; rfl) ?_
    exact TotP.ite (fun _ => TotP.some_ (by unfold zmB; rw [if_neg hn])) (fun h => absurd ht h)
  have bad0 : ∀ t : Bool, t = true → ¬ ((1 ≤ ty ∧ ty ≤ 3) ∧ (0 ≤ z0 ∧ z0 ≤ 4096) ∧ 0 ≤ z1 ∧ z1 ≤ z0) → TotP (fun r => r = zmB ty z0 z1 z2 z3 z4 z5 z6 z7) (fun k => zone_May.j0 k ty t z0 z1 z2 z3 z4 z5 z6 z7) := by
    intro t ht hn
    refine TotP.succ (fun k => by simp only [zone_May.j0]; rfl) ?_
    exact TotP.ite (fun _ => TotP.some_ (by unfold zmB; rw [if_neg hn])) (fun h => absurd ht h)
  unfold zone_May.f
  refine TotP.ite (fun h => bad0 _ rfl (by omega)) (fun h1 => ?_)
  by_cases h2 : ty > 3
  · exact bad0 _ (decide_eq_true h2) (by omega)
  refine TotP.succ (fun k => by simp only [zone_May.j0]; rfl) ?_
  refine TotP.ite (fun h => absurd (of_decide_eq_true h) h2) (fun _ => ?_)
  refine TotP.ite (fun h => bad1 _ rfl (by omega)) (fun h3 => ?_)
  refine TotP.ite (fun h => bad1 _ rfl (by omega)) (fun h4 => ?_)
  refine TotP.ite (fun h => bad1 _ rfl (by omega)) (fun h5 => ?_)
  by_cases h6 : z1 > z0
  · exact bad1 _ (decide_eq_true h6) (by omega)
  refine TotP.succ (fun k => by simp only [zone_May.j1]; rfl) ?_
  refine TotP.ite (fun h => absurd (of_decide_eq_true h) h6) (fun _ => ?_)
  unfold zmB
  rw [if_pos (show (1 ≤ ty ∧ ty ≤ 3) ∧ (0 ≤ z0 ∧ z0 ≤ 4096) ∧ 0 ≤ z1 ∧ z1 ≤ z0 by omega)]
  refine TotP.bind (TotP.some_ (P := fun b => b = decide (z0 > z1)) rfl) (fun b hb => ?_)
  subst hb
  refine TotP.ite (fun g => ?_) (fun g => ?_)
  · have g := of_decide_eq_true g
    rw [if_neg (by omega), cm_some, cm_some]
    refine TotP.bind (TotP.some_ (P := fun b => b = cmB ty z2 z3 z4) rfl) (fun b hb => ?_)
    subst hb
    refine TotP.ite (fun g => ?_) (fun g => TotP.some_ (by rw [Bool.eq_false_iff.2 g]; rfl))
    refine TotP.bind (TotP.some_ (P := fun b => b = cmB ty z5 z6 z7) rfl) (fun b hb => ?_)
    subst hb
    refine TotP.ite (fun g' => ?_) (fun g' => TotP.some_ (by rw [g, Bool.eq_false_iff.2 g']; rfl))
    refine TotP.bind ⟨_, ord_ev z2 z3 z4 z5 z6 z7, rfl⟩ (P := fun o => o = ord z2 z3 z4 z5 z6 z7) (fun o ho => TotP.some_ ?_)
    rw [ho, g, g']; rfl
  · have g : ¬ z0 > z1 := fun h => g (decide_eq_true h)
    rw [if_pos (by omega)]
    refine TotP.ite (fun g => TotP.some_ ?_) (fun g => TotP.some_ ?_)
    · rw [show emB z2 z3 z4 = true from g]; rfl
    · rw [show emB z2 z3 z4 = false from Bool.eq_false_iff.2 g]; rfl
end Go.Proofs.Ytdedmhmomoejkaa.X
namespace Go.Proofs.Ytdedmhmomoejkaa.X
open Go.RowKit Go.Proofs.YtdedmhmomoejkaaW.PrintWords Go.Proofs.YtdedmhmomoejkaaW.PrintLast
set_option linter.unusedVariables false
set_option linter.unusedSimpArgs false
theorem bl_irrefl : ∀ (x : List UInt8), Op.bytesLess x x = false
  | [] => rfl
  | a :: x => by simp [Op.bytesLess, bl_irrefl x]
theorem bl_asym : ∀ (x y : List UInt8), Op.bytesLess x y = true → Op.bytesLess y x = false
  | [], [], h => by simp [Op.bytesLess] at h
  | [], b :: y, _ => by simp [Op.bytesLess]
  | a :: x, [], h => by simp [Op.bytesLess] at h
  | a :: x, b :: y, h => by
    by_cases h1 : a < b
    · have h2 : ¬ b < a := fun h => by simp only [UInt8.lt_iff_toNat_lt] at *; omega
      have h3 : ¬ b = a := fun e => by subst e; simp at h1
      simp [Op.bytesLess, h2, h3]
    · by_cases h2 : b < a
      · have h3 : ¬ a = b := fun e => by subst e; simp at h2
        simp [Op.bytesLess, h1, h3] at h
      · have e : a = b := UInt8.toNat_inj.1 (by simp only [UInt8.lt_iff_toNat_lt] at *; omega)
        subst e
        have := bl_asym x y (by simpa [Op.bytesLess] using h)
        simp [Op.bytesLess, this]
theorem bl_total : ∀ (x y : List UInt8), Op.bytesLess x y = false → Op.bytesLess y x = false → x = y
  | [], [], _, _ => rfl
  | [], b :: y, h, _ => by simp [Op.bytesLess] at h
  | a :: x, [], _, h => by simp [Op.bytesLess] at h
  | a :: x, b :: y, h, h' => by
    by_cases h1 : a < b
    · simp [Op.bytesLess, h1] at h
    · by_cases h2 : b < a
      · simp [Op.bytesLess, h2] at h'
      · have e : a = b := UInt8.toNat_inj.1 (by simp only [UInt8.lt_iff_toNat_lt] at *; omega)
        subst e
        rw [bl_total x y (by simpa [Op.bytesLess] using h) (by simpa [Op.bytesLess] using h')]
theorem cmpT_neg (a b : ByteArray) : cmpT b a = - cmpT a b := by
  unfold cmpT
  cases h : Op.bytesLess a.toList b.toList with
  | true =>
    have h1 := bl_asym _ _ h
    have h2 : ¬ b.toList = a.toList := fun e => by rw [e, bl_irrefl] at h; cases h
    simp [h1, h2]
  | false =>
    cases h' : Op.bytesLess b.toList a.toList with
    | true =>
      have h2 : ¬ a.toList = b.toList := fun e => by rw [e, bl_irrefl] at h'; cases h'
      simp [h2]
    | false =>
      have e := bl_total _ _ h h'
      simp [e]
theorem cmpI_neg (a b : Int) : cmpI b a = - cmpI a b := by unfold cmpI; repeat' split <;> omega
theorem ord_neg (a0 : Bool) (a1 : Int) (a2 : ByteArray) (b0 : Bool) (b1 : Int) (b2 : ByteArray) : ord b0 b1 b2 a0 a1 a2 = - ord a0 a1 a2 b0 b1 b2 := by
  unfold ord
  rw [cmpI_neg (flagI a0) (flagI b0), cmpI_neg a1 b1, cmpT_neg a2 b2]
  repeat' split <;> omega
theorem ord_zero (a0 : Bool) (a1 : Int) (a2 : ByteArray) (b0 : Bool) (b1 : Int) (b2 : ByteArray) : ord a0 a1 a2 b0 b1 b2 = 0 ↔ a0 = b0 ∧ a1 = b1 ∧ a2.toList = b2.toList := by
  have hI : ∀ x y : Int, cmpI x y = 0 ↔ x = y := fun x y => by unfold cmpI; repeat' split <;> omega
  have hT : cmpT a2 b2 = 0 ↔ a2.toList = b2.toList := by
    unfold cmpT
    cases h : Op.bytesLess a2.toList b2.toList with
    | true =>
      have h2 : ¬ a2.toList = b2.toList := fun e => by rw [e, bl_irrefl] at h; cases h
      simp [h2]
    | false => by_cases e : a2.toList = b2.toList <;> simp [e]
  have hF : flagI a0 = flagI b0 ↔ a0 = b0 := by cases a0 <;> cases b0 <;> decide
  unfold ord
  by_cases h1 : cmpI (flagI a0) (flagI b0) = 0
  · rw [if_pos h1]
    have e1 := hF.1 ((hI _ _).1 h1)
    by_cases h2 : cmpI a1 b1 = 0
    · rw [if_pos h2, hT]
      exact ⟨fun h => ⟨e1, (hI _ _).1 h2, h⟩, fun h => h.2.2⟩
    · rw [if_neg h2]
      exact ⟨fun h => absurd h h2, fun h => absurd ((hI _ _).2 h.2.1) h2⟩
  · rw [if_neg h1]
    exact ⟨fun h => absurd h h1, fun h => absurd ((hI _ _).2 (hF.2 h.1)) h1⟩
end Go.Proofs.Ytdedmhmomoejkaa.X
namespace Go.Proofs.Ytdedmhmomoejkaa.X
open Go.RowKit Go.Proofs.YtdedmhmomoejkaaW.PrintWords Go.Proofs.YtdedmhmomoejkaaW.PrintLast Go.Proofs.YtdedmhmomoejkaaW.PrintMore
attribute [local go_sem] max2_int max_two
set_option linter.unusedVariables false
set_option linter.unusedSimpArgs false
def firkinref21_yes.f (k : Nat) (a0_0 : Bool) (a0_1 : Int) (a0_2 : ByteArray) (a1_0 : Bool) (a1_1 : Int) (a1_2 : ByteArray) (a2 : Int) (a3_0 : Bool) (a3_1 : Int) (a3_2 : ByteArray) : Option (Bool) := (firkinref09_Order.f k a0_0 a0_1 a0_2 a3_0 a3_1 a3_2).bind fun t307 => ((firkinref09_Order.f k a1_0 a1_1 a1_2 a3_0 a3_1 a3_2).bind fun t308 => (if a2 = 1 then (if t307 ≤ 0 then (some (decide (t308 ≥ 0))) else (some false)) else (if a2 = 2 then (if t307 = 0 then (some (t308 != 0)) else (some true)) else (if a2 = 3 then (some (decide (t307 < 0))) else (if a2 = 4 then (some (decide (t307 ≤ 0))) else (if a2 = 5 then (some (decide (t308 > 0))) else (some (decide (t308 ≥ 0)))))))))
theorem firkinref21_yes.mono : ∀ a0 a1 a2 a3 a4 a5 a6 a7 a8 a9 k, LeO (firkinref21_yes.f k a0 a1 a2 a3 a4 a5 a6 a7 a8 a9) (firkinref21_yes.f (k + 1) a0 a1 a2 a3 a4 a5 a6 a7 a8 a9) := by
 intro a0 a1 a2 a3 a4 a5 a6 a7 a8 a9 k
 unfold firkinref21_yes.f
 repeat' first
   | (with_reducible exact firkinref09_Order.mono _ _ _ _ _ _ _)
   | (with_reducible exact LeO.refl _)
   | (with_reducible exact LeO.none _)
   | (with_reducible refine LeO.ite ?_ ?_)
   | (with_reducible refine LeO.bind ?_ (fun _ => ?_))
   | exact firkinref09_Order.mono _ _ _ _ _ _ _
   | exact LeO.none _
   | refine LeO.ite ?_ ?_
   | refine LeO.bind ?_ (fun _ => ?_)
def firkinref21_yes.T1 : Bool × List (List Nat × List Nat) := (true, [([], []), ([], []), ([0, 1], [0, 1]), ([], []), ([], []), ([3, 4, 2], [3, 4]), ([2, 5, 0, 1, 2], [2]), ([5, 6, 0, 1, 2, 3, 4, 5, 6], [5])])
def firkinref21_yes.B1 : List Nat := [0, 0, 3, 0, 0, 31, 63, 127]
theorem firkinref21_yes.tab1 : rtab .any (opsOf Try.f58 1) = firkinref21_yes.T1 := by kernel_rfl
theorem firkinref21_yes.bits1 : waitsOk firkinref21_yes.T1.2 firkinref21_yes.B1 = true := by kernel_rfl
set_option maxHeartbeats 8000000 in
set_option maxRecDepth 100000 in
theorem firkinref21_yes.calls (k : Nat) (a0_0 : Bool) (a0_1 : Int) (a0_2 : ByteArray) (a1_0 : Bool) (a1_1 : Int) (a1_2 : ByteArray) (a2 : Int) (a3_0 : Bool) (a3_1 : Int) (a3_2 : ByteArray) (r : Bool) (w : World) (h : firkinref21_yes.f k a0_0 a0_1 a0_2 a1_0 a1_1 a1_2 a2 a3_0 a3_1 a3_2 = some r) :
  Calls Try.prog 58 #[.agg #[.bool a0_0, .int .i64 a0_1, .string a0_2], .agg #[.bool a1_0, .int .i64 a1_1, .string a1_2], .int .i64 a2, .agg #[.bool a3_0, .int .i64 a3_1, .string a3_2]] w fun e w' => e = .returned (.bool r) ∧ Below w.heap.size w w' := by
 have hu24 := Try.underlying24
 have HB := Aside0.mk (Below.refl w.heap.size w)
 have H : ((firkinref09_Order.f k a0_0 a0_1 a0_2 a3_0 a3_1 a3_2).bind fun t307 => ((firkinref09_Order.f k a1_0 a1_1 a1_2 a3_0 a3_1 a3_2).bind fun t308 => (if a2 = 1 then (if t307 ≤ 0 then (some (decide (t308 ≥ 0))) else (some false)) else (if a2 = 2 then (if t307 = 0 then (some (t308 != 0)) else (some true)) else (if a2 = 3 then (some (decide (t307 < 0))) else (if a2 = 4 then (some (decide (t307 ≤ 0))) else (if a2 = 5 then (some (decide (t308 > 0))) else (some (decide (t308 ≥ 0)))))))))) = some r := h
 clear h
 replace H := Option.bind_eq_some_iff.mp H
 obtain ⟨t307, A50, H⟩ := H
 replace H : ((firkinref09_Order.f k a1_0 a1_1 a1_2 a3_0 a3_1 a3_2).bind fun t308 => (if a2 = 1 then (if t307 ≤ 0 then (some (decide (t308 ≥ 0))) else (some false)) else (if a2 = 2 then (if t307 = 0 then (some (t308 != 0)) else (some true)) else (if a2 = 3 then (some (decide (t307 < 0))) else (if a2 = 4 then (some (decide (t307 ≤ 0))) else (if a2 = 5 then (some (decide (t308 > 0))) else (some (decide (t308 ≥ 0))))))))) = some r := H
 have A5 := Aside0.mk A50
 clear A50
 replace H := Option.bind_eq_some_iff.mp H
 obtain ⟨t308, A60, H⟩ := H
 replace H : (if a2 = 1 then (if t307 ≤ 0 then (some (decide (t308 ≥ 0))) else (some false)) else (if a2 = 2 then (if t307 = 0 then (some (t308 != 0)) else (some true)) else (if a2 = 3 then (some (decide (t307 < 0))) else (if a2 = 4 then (some (decide (t307 ≤ 0))) else (if a2 = 5 then (some (decide (t308 > 0))) else (some (decide (t308 ≥ 0)))))))) = some r := H
 have A6 := Aside0.mk A60
 clear A60
 have H' := Aside0.mk H
 clear H
 go_enter Try.func58, Try.ntmps58
 try go_wp2_with (first | (refine bx_ (N := 4) (cs := #[.bool a0_0, .int .i64 a0_1, .string a0_2]) (t := 24) ?_; intro gb304 hg w9 hbox hb; have BK304 := Aside0.mk (hbox); have GW304 := ge_ HB hg; have GE304 := ge_ HB hg; replace HB := bs_ HB hb; clear hb hbox hg) | (refine bx_ (N := 5) (cs := #[.bool a1_0, .int .i64 a1_1, .string a1_2]) (t := 24) ?_; intro gb305 hg w10 hbox hb; have BK305 := Aside0.mk (hbox); have GW305 := ge_ HB hg; have GE305 := ge_ HB hg; have NB304_305 := lt_ BK304 hg; have NB305_304 := gt_ BK304 hg; replace BK304 := bk_ BK304 hb; replace HB := bs_ HB hb; clear hb hbox hg) | (refine bx_ (N := 7) (cs := #[.bool a3_0, .int .i64 a3_1, .string a3_2]) (t := 24) ?_; intro gb306 hg w11 hbox hb; have BK306 := Aside0.mk (hbox); have GW306 := ge_ HB hg; have GE306 := ge_ HB hg; have NB304_306 := lt_ BK304 hg; have NB306_304 := gt_ BK304 hg; have NB305_306 := lt_ BK305 hg; have NB306_305 := gt_ BK305 hg; replace BK304 := bk_ BK304 hb; replace BK305 := bk_ BK305 hb; replace HB := bs_ HB hb; clear hb hbox hg))
 replace BK304 := Aside0.mk (blk_drew BK304.out); replace BK305 := Aside0.mk (blk_drew BK305.out); replace BK306 := Aside0.mk (blk_drew BK306.out); replace HB := Aside0.mk (below_drew1 HB.out)
 refine start_ (n := 8) (S := fun w' => w'.cell? ⟨gb304, 0, none⟩ = some (.bool a0_0) ∧ w'.cell? ⟨gb304, 1, none⟩ = some (.int .i64 a0_1) ∧ w'.cell? ⟨gb304, 2, none⟩ = some (.string a0_2) ∧ w'.cell? ⟨gb306, 0, none⟩ = some (.bool a3_0) ∧ w'.cell? ⟨gb306, 1, none⟩ = some (.int .i64 a3_1) ∧ w'.cell? ⟨gb306, 2, none⟩ = some (.string a3_2) ∧ w'.cell? ⟨gb305, 0, none⟩ = some (.bool a1_0) ∧ w'.cell? ⟨gb305, 1, none⟩ = some (.int .i64 a1_1) ∧ w'.cell? ⟨gb305, 2, none⟩ = some (.string a1_2)) (ds := []) #[false, false, false, false, false, false, false, false] (by kernel_rfl) rfl rfl ⟨(blk_cell BK304.out 0).trans rfl, (blk_cell BK304.out 1).trans rfl, (blk_cell BK304.out 2).trans rfl, (blk_cell BK306.out 0).trans rfl, (blk_cell BK306.out 1).trans rfl, (blk_cell BK306.out 2).trans rfl, (blk_cell BK305.out 0).trans rfl, (blk_cell BK305.out 1).trans rfl, (blk_cell BK305.out 2).trans rfl⟩ (fun hHeld => ?_); refine with_tabW firkinref21_yes.tab1 firkinref21_yes.bits1 (fun HT_ HW_ => ?_)
 generalize w11.drew = w12 at BK304 BK305 BK306 HB hHeld ⊢
 refine ta_ 0 (some 11) (bl_ 8 1) hHeld ?_
 refine ta_ 1 (some 12) (bl_ 8 3) hHeld ?_
 refine ta_ 3 (some 14) (bl_ 8 11) hHeld ?_
 refine ta_ 4 (some 15) (bl_ 8 27) hHeld ?_
 refine one_ (i := 2) (N := some 13) #[true, true, true, true, true, false, false, false] rfl rfl (one_of HT_.out (by kernel_rfl)) (by decide) (fun K hK => ?_)
 refine gs_ Try.func35 #[.agg #[.bool a0_0, .int .i64 a0_1, .string a0_2], .agg #[.bool a3_0, .int .i64 a3_1, .string a3_2]] ?_
 with_reducible refine (firkinref09_Order.calls k a0_0 a0_1 a0_2 a3_0 a3_1 a3_2 t307 _ A5.out).mono ?_
 rintro e w13 ⟨rfl, hb⟩
 refine ⟨_, rfl, ?_⟩
 replace BK304 := bk_ BK304 hb; replace BK305 := bk_ BK305 hb; replace BK306 := bk_ BK306 hb; replace HB := bs_ HB hb
 (try clear hb)
 (try clear hb2)
 (try clear hk)
 (try clear hi)
 refine hK.out _ _ ⟨(blk_cell BK304.out 0).trans rfl, (blk_cell BK304.out 1).trans rfl, (blk_cell BK304.out 2).trans rfl, (blk_cell BK306.out 0).trans rfl, (blk_cell BK306.out 1).trans rfl, (blk_cell BK306.out 2).trans rfl, (blk_cell BK305.out 0).trans rfl, (blk_cell BK305.out 1).trans rfl, (blk_cell BK305.out 2).trans rfl⟩ (fun hHeld => ?_)
 clear hK K
 refine norm_ (a' := ?_) ?_ ?_
 rotate_left
 ·show Act.put _ (some 13) _ = _
  simp only [Act.put, List.setIfInBounds_toArray, List.set_cons_zero, List.set_cons_succ, i64_w, i32_w]
  rfl
 refine one_ (i := 5) (N := some 16) #[true, true, true, true, true, true, false, false] rfl rfl (one_of HT_.out (by kernel_rfl)) (by decide) (fun K hK => ?_)
 refine gs_ Try.func35 #[.agg #[.bool a1_0, .int .i64 a1_1, .string a1_2], .agg #[.bool a3_0, .int .i64 a3_1, .string a3_2]] ?_
 with_reducible refine (firkinref09_Order.calls k a1_0 a1_1 a1_2 a3_0 a3_1 a3_2 t308 _ A6.out).mono ?_
 rintro e w14 ⟨rfl, hb⟩
 refine ⟨_, rfl, ?_⟩
 replace BK304 := bk_ BK304 hb; replace BK305 := bk_ BK305 hb; replace BK306 := bk_ BK306 hb; replace HB := bs_ HB hb
 (try clear hb)
 (try clear hb2)
 (try clear hk)
 (try clear hi)
 refine hK.out _ _ ⟨(blk_cell BK304.out 0).trans rfl, (blk_cell BK304.out 1).trans rfl, (blk_cell BK304.out 2).trans rfl, (blk_cell BK306.out 0).trans rfl, (blk_cell BK306.out 1).trans rfl, (blk_cell BK306.out 2).trans rfl, (blk_cell BK305.out 0).trans rfl, (blk_cell BK305.out 1).trans rfl, (blk_cell BK305.out 2).trans rfl⟩ (fun hHeld => ?_)
 clear hK K
 refine norm_ (a' := ?_) ?_ ?_
 rotate_left
 ·show Act.put _ (some 16) _ = _
  simp only [Act.put, List.setIfInBounds_toArray, List.set_cons_zero, List.set_cons_succ, i64_w, i32_w]
  rfl
 refine pu_ 6 (some 9) (bl_ 8 127) ?_
 refine pu_ 7 (some 10) (bl_ 8 255) ?_
 refine done_ (done_of HT_.out (by kernel_rfl)) ?_
 have H := H'.out
 clear H'
 by_cases c7 : a2 = 1
 ·rw [if_pos c7] at H
  have c7b0 : (a2 == 1) = true := beq_iff_eq.mpr c7
  have c7b1 : (a2 != 1) = false := bne_eq_false_iff_eq.mpr c7
  clear c7
  by_cases c8 : t307 ≤ 0
  ·rw [if_pos c8] at H
   have c8b0 : decide (t307 ≤ 0) = true := decide_eq_true c8
   clear c8
   obtain rfl := Option.some.inj H
   try go_wp2
   go_ret
   exact en_ HB
  ·rw [if_neg c8] at H
   have c8b0 : decide (t307 ≤ 0) = false := decide_eq_false c8
   clear c8
   obtain rfl := Option.some.inj H
   try go_wp2
   go_ret
   exact en_ HB
 ·rw [if_neg c7] at H
  have c7b0 : (a2 == 1) = false := beq_eq_false_iff_ne.mpr c7
  have c7b1 : (a2 != 1) = true := bne_iff_ne.mpr c7
  by_cases c21 : a2 = 2
  ·rw [if_pos c21] at H
   have c21b0 : (a2 == 2) = true := beq_iff_eq.mpr c21
   have c21b1 : (a2 != 2) = false := bne_eq_false_iff_eq.mpr c21
   clear c21
   by_cases c22 : t307 = 0
   ·rw [if_pos c22] at H
    have c22b0 : (t307 == 0) = true := beq_iff_eq.mpr c22
    have c22b1 : (t307 != 0) = false := bne_eq_false_iff_eq.mpr c22
    clear c22
    obtain rfl := Option.some.inj H
    try go_wp2
    go_ret
    exact en_ HB
   ·rw [if_neg c22] at H
    have c22b0 : (t307 == 0) = false := beq_eq_false_iff_ne.mpr c22
    have c22b1 : (t307 != 0) = true := bne_iff_ne.mpr c22
    obtain rfl := Option.some.inj H
    try go_wp2
    go_ret
    exact en_ HB
  ·rw [if_neg c21] at H
   have c21b0 : (a2 == 2) = false := beq_eq_false_iff_ne.mpr c21
   have c21b1 : (a2 != 2) = true := bne_iff_ne.mpr c21
   by_cases c35 : a2 = 3
   ·rw [if_pos c35] at H
    have c35b0 : (a2 == 3) = true := beq_iff_eq.mpr c35
    have c35b1 : (a2 != 3) = false := bne_eq_false_iff_eq.mpr c35
    clear c35
    obtain rfl := Option.some.inj H
    try go_wp2
    go_ret
    exact en_ HB
   ·rw [if_neg c35] at H
    have c35b0 : (a2 == 3) = false := beq_eq_false_iff_ne.mpr c35
    have c35b1 : (a2 != 3) = true := bne_iff_ne.mpr c35
    by_cases c42 : a2 = 4
    ·rw [if_pos c42] at H
     have c42b0 : (a2 == 4) = true := beq_iff_eq.mpr c42
     have c42b1 : (a2 != 4) = false := bne_eq_false_iff_eq.mpr c42
     clear c42
     obtain rfl := Option.some.inj H
     try go_wp2
     go_ret
     exact en_ HB
    ·rw [if_neg c42] at H
     have c42b0 : (a2 == 4) = false := beq_eq_false_iff_ne.mpr c42
     have c42b1 : (a2 != 4) = true := bne_iff_ne.mpr c42
     by_cases c49 : a2 = 5
     ·rw [if_pos c49] at H
      have c49b0 : (a2 == 5) = true := beq_iff_eq.mpr c49
      have c49b1 : (a2 != 5) = false := bne_eq_false_iff_eq.mpr c49
      clear c49
      obtain rfl := Option.some.inj H
      try go_wp2
      go_ret
      exact en_ HB
     ·rw [if_neg c49] at H
      have c49b0 : (a2 == 5) = false := beq_eq_false_iff_ne.mpr c49
      have c49b1 : (a2 != 5) = true := bne_iff_ne.mpr c49
      obtain rfl := Option.some.inj H
      try go_wp2
      go_ret
      exact en_ HB
end Go.Proofs.Ytdedmhmomoejkaa.X
namespace Go.Proofs.Ytdedmhmomoejkaa.X
open Go.RowKit Go.Proofs.YtdedmhmomoejkaaW.PrintWords Go.Proofs.YtdedmhmomoejkaaW.PrintLast
set_option linter.unusedVariables false
set_option linter.unusedSimpArgs false
def yB (op a b : Int) : Bool :=
  if op = 1 then decide (a ≤ 0) && decide (0 ≤ b) else if op = 2 then a != 0 || b != 0 else if op = 3 then decide (a < 0) else if op = 4 then decide (a ≤ 0) else if op = 5 then decide (0 < b) else decide (0 ≤ b)
theorem yes21 (a0 : Bool) (a1 : Int) (a2 : ByteArray) (b0 : Bool) (b1 : Int) (b2 : ByteArray) (op : Int) (v0 : Bool) (v1 : Int) (v2 : ByteArray) :
    TotP (fun r => r = yB op (ord a0 a1 a2 v0 v1 v2) (ord b0 b1 b2 v0 v1 v2)) (fun k => firkinref21_yes.f k a0 a1 a2 b0 b1 b2 op v0 v1 v2) := by
  unfold firkinref21_yes.f
  refine TotP.bind (ord09 _ _ _ _ _ _) (fun a ha => ?_)
  refine TotP.bind (ord09 _ _ _ _ _ _) (fun b hb => ?_)
  rw [← ha, ← hb]
  clear ha hb
  unfold yB
  refine TotP.ite (fun h => ?_) (fun h => ?_)
  · rw [if_pos h]
    refine TotP.ite (fun g => TotP.some_ (by rw [decide_eq_true g]; rfl)) (fun g => TotP.some_ (by rw [decide_eq_false g]; rfl))
  rw [if_neg h]
  refine TotP.ite (fun h => ?_) (fun h => ?_)
  · rw [if_pos h]
    refine TotP.ite (fun g => TotP.some_ (by simp [g])) (fun g => TotP.some_ (by simp [g]))
  rw [if_neg h]
  refine TotP.ite (fun h => TotP.some_ (by rw [if_pos h])) (fun h => ?_)
  rw [if_neg h]
  refine TotP.ite (fun h => TotP.some_ (by rw [if_pos h])) (fun h => ?_)
  rw [if_neg h]
  exact TotP.ite (fun h => TotP.some_ (by rw [if_pos h])) (fun h => TotP.some_ (by rw [if_neg h]))
end Go.Proofs.Ytdedmhmomoejkaa.X
namespace Go.Proofs.Ytdedmhmomoejkaa.X
open Go.RowKit Go.Proofs.YtdedmhmomoejkaaW.PrintWords Go.Proofs.YtdedmhmomoejkaaW.PrintLast
set_option linter.unusedVariables false
set_option linter.unusedSimpArgs false
theorem ordP (a0 : Bool) (a1 : Int) (a2 : ByteArray) (b0 : Bool) (b1 : Int) (b2 : ByteArray) : TotP (fun r => r = ord a0 a1 a2 b0 b1 b2) (fun k => cell_Order.f k a0 a1 a2 b0 b1 b2) := ⟨_, ord_ev _ _ _ _ _ _, rfl⟩
theorem can21 (z0 z1 : Int) (hz : z0 > z1) (a0 : Bool) (a1 : Int) (a2 : ByteArray) (b0 : Bool) (b1 : Int) (b2 : ByteArray) (op : Int) (v1 : Int) (v2 : ByteArray) :
    TotP (fun r => r = yB op (ord a0 a1 a2 false v1 v2) (ord b0 b1 b2 false v1 v2)) (fun k => prune_can.f k z0 z1 a0 a1 a2 b0 b1 b2 op false v1 v2) := by
  unfold prune_can.f yB
  refine TotP.ite (fun h => ?_) (fun h => ?_)
  · rw [if_pos h]
    refine TotP.bind (P := fun r => r = (decide (ord a0 a1 a2 false v1 v2 ≤ 0) && decide (0 ≤ ord b0 b1 b2 false v1 v2))) ?_ (fun r hr => TotP.some_ hr)
    unfold zone_Has.f
    refine TotP.ite (fun h => by cases h) (fun _ => ?_)
    refine TotP.bind (TotP.some_ (P := fun b => b = decide (z0 > z1)) rfl) (fun b hb => ?_)
    refine TotP.ite (fun _ => ?_) (fun h => absurd (hb.trans (decide_eq_true hz)) h)
    refine TotP.bind (ordP _ _ _ _ _ _) (fun a ha => ?_)
    rw [ord_neg] at ha
    refine TotP.ite (fun g => ?_) (fun g => TotP.some_ (by rw [decide_eq_false (show ¬ ord a0 a1 a2 false v1 v2 ≤ 0 by omega)]; rfl))
    refine TotP.bind (ordP _ _ _ _ _ _) (fun b hb => TotP.some_ ?_)
    rw [ord_neg] at hb
    rw [decide_eq_true (show ord a0 a1 a2 false v1 v2 ≤ 0 by omega), Bool.true_and]
    exact decide_eq_decide.2 (by omega)
  rw [if_neg h]
  refine TotP.ite (fun h => ?_) (fun h => ?_)
  · rw [if_pos h]
    have ha := ord_zero a0 a1 a2 false v1 v2
    have hb := ord_zero b0 b1 b2 false v1 v2
    generalize ord a0 a1 a2 false v1 v2 = x at ha
    generalize ord b0 b1 b2 false v1 v2 = y at hb
    refine TotP.ite (fun g => TotP.some_ ?_) (fun g => TotP.some_ ?_)
    · have : x ≠ 0 := fun e => by
        obtain ⟨e1, e2, e3⟩ := ha.1 e
        simp [e1, e2, e3] at g
      simp [this]
    · have : x = 0 := ha.2 (by simpa [and_assoc] using g)
      have e : (y != 0) = !(decide (b0 = false ∧ b1 = v1 ∧ b2.toList = v2.toList)) := by
        by_cases q : y = 0
        · rw [decide_eq_true (hb.1 q)]; simp [q]
        · rw [decide_eq_false (fun q' => q (hb.2 q'))]; simp [q]
      rw [e, this]
      cases b0 <;> by_cases q1 : b1 = v1 <;> by_cases q2 : b2.toList = v2.toList <;> simp [q1, q2]
  rw [if_neg h]
  refine TotP.ite (fun h => ?_) (fun h => ?_)
  · rw [if_pos h]
    exact TotP.bind (ordP _ _ _ _ _ _) (fun a ha => TotP.some_ (by rw [ha]))
  rw [if_neg h]
  refine TotP.ite (fun h => ?_) (fun h => ?_)
  · rw [if_pos h]
    exact TotP.bind (ordP _ _ _ _ _ _) (fun a ha => TotP.some_ (by rw [ha]))
  rw [if_neg h]
  refine TotP.ite (fun h => ?_) (fun h => ?_)
  · rw [if_pos h]
    exact TotP.bind (ordP _ _ _ _ _ _) (fun a ha => TotP.some_ (by rw [ha]))
  rw [if_neg h]
  exact TotP.bind (ordP _ _ _ _ _ _) (fun a ha => TotP.some_ (by rw [ha]))
end Go.Proofs.Ytdedmhmomoejkaa.X
namespace Go.Proofs.Ytdedmhmomoejkaa.X
open Go.RowKit Go.Proofs.YtdedmhmomoejkaaW.PrintWords Go.Proofs.YtdedmhmomoejkaaW.PrintLast
set_option linter.unusedVariables false
set_option linter.unusedSimpArgs false
def back (c : Int) : Int := if c = 1 then 2 else if c = 2 then 1 else if c = 3 then 6 else if c = 4 then 5 else if c = 5 then 4 else 3
theorem opp_f (c : Int) : prune_opposite.f c = some (back c) := by
  unfold prune_opposite.f back
  repeat' (first | rfl | split)
def leafR (z : S33) (x : S27) : Bool × Bool × Bool :=
  if x.f0 = 1 then (true, false, false)
  else if x.f0 = 3 then (decide (z.f1 > 0), decide (z.f0 > z.f1), false)
  else if x.f0 = 2 then (decide (z.f0 > z.f1) && yB x.f2 (ord z.f2.f0 z.f2.f1 z.f2.f2 x.f3.f0 x.f3.f1 x.f3.f2) (ord z.f3.f0 z.f3.f1 z.f3.f2 x.f3.f0 x.f3.f1 x.f3.f2),
    decide (z.f0 > z.f1) && yB (back x.f2) (ord z.f2.f0 z.f2.f1 z.f2.f2 x.f3.f0 x.f3.f1 x.f3.f2) (ord z.f3.f0 z.f3.f1 z.f3.f2 x.f3.f0 x.f3.f1 x.f3.f2), decide (z.f1 > 0))
  else (decide (z.f0 > z.f1), decide (z.f0 > z.f1), decide (z.f1 > 0))
def zoneP (l : List S64) (zs : List S33) (x : S27) : S33 := rd_T33 zs (idxOf (fun y : S64 => y.f0.toList == x.f1.toList) l)
def askR (l : List S64) (zs : List S33) : Nat → S27 → Bool × Bool × Bool
  | 0, _ => (false, false, false)
  | d + 1, x =>
    if x.f0 = 5 then ((askR l zs d (rd_T27 x.f6 0)).2.1, (askR l zs d (rd_T27 x.f6 0)).1, (askR l zs d (rd_T27 x.f6 0)).2.2)
    else if x.f0 = 6 then (x.f6.all (fun y => (askR l zs d y).1), x.f6.any (fun y => (askR l zs d y).2.1), x.f6.any (fun y => (askR l zs d y).2.2))
    else if x.f0 = 7 then (x.f6.any (fun y => (askR l zs d y).1), x.f6.all (fun y => (askR l zs d y).2.1), x.f6.any (fun y => (askR l zs d y).2.2))
    else leafR (zoneP l zs x) x
theorem val_in (x : S27) (hf : fieldsB x = true) (h2 : x.f0 = 2) : (1 ≤ x.f2 ∧ x.f2 ≤ 6) ∧ x.f3.f0 = false := by
  rw [fieldsB_eq, Bool.and_eq_true] at hf
  have h := hf.2
  unfold opB at h
  rw [if_neg (by omega), if_pos h2] at h
  simp only [Bool.and_eq_true, decide_eq_true_eq] at h
  refine ⟨⟨h.2.1, h.2.2.1⟩, ?_⟩
  have hm := h.2.2.2
  cases hb : x.f3.f0 with
  | false => rfl
  | true =>
    rw [hb] at hm
    simp [cell_May.f] at hm
theorem simpleR (l : List S64) (zs : List S33) (hz : zs.length = l.length) (x : S27) (hf : fieldsB x = true) (ht : typedB l x = true) (h5 : x.f0 ≠ 5) (h6 : x.f0 ≠ 6) (h7 : x.f0 ≠ 7) :
    TotP (fun r => r = leafR (zoneP l zs x) x) (fun k => prune_asker_simple.f k l zs x.f0 x.f1 x.f2 x.f3.f0 x.f3.f1 x.f3.f2 x.f4 x.f5 x.f6) := by
  unfold prune_asker_simple.f
  refine TotP.ite (fun h1 => TotP.some_ (by unfold leafR; rw [if_pos h1])) (fun h1 => ?_)
  have hn : nameB x.f1 = true := by
    rcases fields_cases x hf with h | h | h
    · exact absurd h h1
    · exact h.2
    · rcases h with h | h | h <;> simp_all
  have hi := typed_found l x ht (name_ne _ hn)
  have hl := idxOf_lt (fun y : S64 => y.f0.toList == x.f1.toList) l
  have hv := val_in x hf
  unfold zoneP
  simp only [schema_Find.f, Option.bind_some]
  generalize idxOf (fun y : S64 => y.f0.toList == x.f1.toList) l = q at hi hl ⊢
  have hq : mx q 0 = q := by unfold mx; split <;> omega
  rw [hq]
  generalize rd_T33 zs q = z
  refine TotP.ite (fun _ => ?_) (fun h => absurd hi h)
  refine TotP.ite (fun _ => ?_) (fun h => absurd (by omega) h)
  refine TotP.ite (fun h3 => TotP.some_ (by unfold leafR; rw [if_neg h1, if_pos h3])) (fun h3 => ?_)
  refine TotP.ite (fun h2 => ?_) (fun h2 => TotP.some_ (by unfold leafR; rw [if_neg h1, if_neg h3, if_neg h2]))
  have hv := (hv h2).2
  refine TotP.ite (fun g => ?_) (fun g => TotP.some_ ?_)
  · rw [hv]
    refine TotP.bind (can21 _ _ g _ _ _ _ _ _ _ _ _) (fun a ha => ?_)
    simp only [opp_f, Option.bind_some]
    refine TotP.bind (can21 _ _ g _ _ _ _ _ _ _ _ _) (fun b hb => TotP.some_ ?_)
    unfold leafR
    rw [if_neg h1, if_neg h3, if_pos h2, hv, decide_eq_true g, Bool.true_and, Bool.true_and, ha, hb]
  · unfold leafR
    rw [if_neg h1, if_neg h3, if_pos h2, decide_eq_false g]
    rfl
theorem and_f (a b c d e f : Bool) : prune_Truths_and.f a b c d e f = some (a && d, b || e, c || f) := by
  cases a <;> cases b <;> cases c <;> cases d <;> cases e <;> cases f <;> rfl
theorem not_f (a b c : Bool) : prune_Truths_not.f a b c = some (b, a, c) := rfl
theorem rd27_get (l : List S27) (i : Nat) (h : i < l.length) : rd_T27 l (i : Int) = l[i] := by
  simp only [rd_T27, Int.toNat_natCast, List.getD_eq_getElem?_getD, List.getElem?_eq_getElem h, Option.getD_some]
theorem askR_l0 (l : List S64) (zs : List S33) (kids : List S27) (g : S27 → Bool × Bool × Bool) (hk : kids.length ≤ 9223372036854775806)
    (h : ∀ y, y ∈ kids → TotP (fun r => r = g y) (fun k => prune_asker_ask.f k l zs y.f0 y.f1 y.f2 y.f3.f0 y.f3.f1 y.f3.f2 y.f4 y.f5 y.f6)) :
    ∀ (n i : Nat) (a b c : Bool), i + n = kids.length → TotP (fun r => r = (a && (kids.drop i).all (fun y => (g y).1), b || (kids.drop i).any (fun y => (g y).2.1), c || (kids.drop i).any (fun y => (g y).2.2)))
      (fun k => prune_asker_ask.l0 k kids (kids.length : Int) (i : Int) l zs a b c) := by
  intro n
  induction n with
  | zero =>
    intro i a b c hi
    refine TotP.succ (f := fun _ => some (a, b, c)) (fun k => ?_) (TotP.some_ ?_)
    · simp only [prune_asker_ask.l0]
      rw [if_neg (by omega)]
    · rw [List.drop_of_length_le (by omega)]; simp
  | succ n ih =>
    intro i a b c hi
    refine TotP.succ (fun k => by simp only [prune_asker_ask.l0]; rfl) ?_
    refine TotP.ite (fun _ => ?_) (fun h' => absurd (by omega) h')
    refine TotP.ite (fun _ => ?_) (fun h' => absurd (by omega) h')
    refine TotP.ite (fun _ => ?_) (fun h' => absurd (by omega) h')
    refine TotP.bind (h _ (rd27_mem kids i (by omega))) (fun t ht => ?_)
    simp only [and_f, Option.bind_some]
    rw [wrap_in (by omega) (by omega), show (i : Int) + 1 = ((i + 1 : Nat) : Int) by omega]
    refine (ih (i + 1) _ _ _ (by omega)).weak (fun r hr => ?_)
    rw [hr, List.drop_eq_getElem_cons (show i < kids.length by omega), ht, rd27_get kids i (by omega)]
    simp only [List.all_cons, List.any_cons, Bool.and_assoc, Bool.or_assoc]
theorem askR_l1 (l : List S64) (zs : List S33) (kids : List S27) (g : S27 → Bool × Bool × Bool) (hk : kids.length ≤ 9223372036854775806)
    (h : ∀ y, y ∈ kids → TotP (fun r => r = g y) (fun k => prune_asker_ask.f k l zs y.f0 y.f1 y.f2 y.f3.f0 y.f3.f1 y.f3.f2 y.f4 y.f5 y.f6)) :
    ∀ (n i : Nat) (a b c : Bool), i + n = kids.length → TotP (fun r => r = (b || (kids.drop i).any (fun y => (g y).1), a && (kids.drop i).all (fun y => (g y).2.1), c || (kids.drop i).any (fun y => (g y).2.2)))
      (fun k => prune_asker_ask.l1 k kids (kids.length : Int) (i : Int) l zs a b c) := by
  intro n
  induction n with
  | zero =>
    intro i a b c hi
    refine TotP.succ (f := fun _ => some (b, a, c)) (fun k => ?_) (TotP.some_ ?_)
    · simp only [prune_asker_ask.l1]
      rw [if_neg (by omega)]
      simp only [not_f, Option.bind_some]
    · rw [List.drop_of_length_le (by omega)]; simp
  | succ n ih =>
    intro i a b c hi
    refine TotP.succ (fun k => by simp only [prune_asker_ask.l1]; rfl) ?_
    refine TotP.ite (fun _ => ?_) (fun h' => absurd (by omega) h')
    refine TotP.ite (fun _ => ?_) (fun h' => absurd (by omega) h')
    refine TotP.ite (fun _ => ?_) (fun h' => absurd (by omega) h')
    refine TotP.bind (h _ (rd27_mem kids i (by omega))) (fun t ht => ?_)
    simp only [not_f, and_f, Option.bind_some]
    rw [wrap_in (by omega) (by omega), show (i : Int) + 1 = ((i + 1 : Nat) : Int) by omega]
    refine (ih (i + 1) _ _ _ (by omega)).weak (fun r hr => ?_)
    rw [hr, List.drop_eq_getElem_cons (show i < kids.length by omega), ht, rd27_get kids i (by omega)]
    simp only [List.all_cons, List.any_cons, Bool.and_assoc, Bool.or_assoc]
theorem askR_tot (l : List S64) (zs : List S33) (hz : zs.length = l.length) : ∀ (d : Nat) (x : S27), Lens d x → Good mayStep d x → Good (typedStep l) d x →
    TotP (fun r => r = askR l zs d x) (fun k => prune_asker_ask.f k l zs x.f0 x.f1 x.f2 x.f3.f0 x.f3.f1 x.f3.f2 x.f4 x.f5 x.f6) := by
  intro d
  induction d with
  | zero => intro x _ h _; obtain ⟨e, h, _⟩ := h.step; omega
  | succ d ih =>
    intro x hl hm ht
    obtain ⟨e, he, ⟨s, hs⟩, hmk⟩ := hm.step
    obtain ⟨e', he', ⟨s', hs'⟩, htk⟩ := ht.step
    have he1 : e = d := by omega
    have he2 : e' = d := by omega
    rw [he1] at hmk
    rw [he2] at htk
    have hlen : x.f6.length ≤ 9223372036854775806 := hl.1
    have hk : ∀ y, y ∈ x.f6 → TotP (fun r => r = askR l zs d y) (fun k => prune_asker_ask.f k l zs y.f0 y.f1 y.f2 y.f3.f0 y.f3.f1 y.f3.f2 y.f4 y.f5 y.f6) := fun y hy => ih y (hl.2 y hy) (hmk y hy) (htk y hy)
    simp only [mayStep, Bool.and_eq_true] at hs
    have hty : typedB l x = true := hs'
    refine TotP.succ (fun k => by simp only [prune_asker_ask.f]; rfl) ?_
    refine TotP.ite (fun h5 => ?_) (fun h5 => ?_)
    · have h1 := kids_len x.f0 x.f6 hs.2.2 h5
      refine TotP.ite (fun _ => ?_) (fun h' => absurd (by omega) h')
      refine TotP.bind (hk _ (rd27_mem x.f6 0 (by omega))) (fun t ht => ?_)
      simp only [not_f, Option.bind_some]
      refine TotP.some_ ?_
      rw [askR, if_pos h5, ht]
    · refine TotP.ite (fun h6 => ?_) (fun h6 => ?_)
      · refine (askR_l0 l zs x.f6 (askR l zs d) hlen hk x.f6.length 0 true false false (by omega)).weak (fun r hr => ?_)
        rw [askR, if_neg h5, if_pos h6, hr]
        simp
      · refine TotP.ite (fun h7 => ?_) (fun h7 => ?_)
        · refine (askR_l1 l zs x.f6 (askR l zs d) hlen hk x.f6.length 0 true false false (by omega)).weak (fun r hr => ?_)
          rw [askR, if_neg h5, if_neg h6, if_pos h7, hr]
          simp
        · refine TotP.bind (simpleR l zs hz x hs.2.1 hty h5 h6 h7) (fun t ht => TotP.some_ ?_)
          rw [askR, if_neg h5, if_neg h6, if_neg h7, ht]
def fitR (l : List S64) (zs : List S33) : Nat → S27 → Bool
  | 0, _ => false
  | d + 1, x => (if x.f1.toList = [] then decide ((x.f0 = 1 ∨ x.f0 = 5 ∨ x.f0 = 6 ∨ x.f0 = 7) ∧ (x.f0 = 5 → x.f6.length = 1))
      else decide ((0 ≤ idxOf (fun y : S64 => y.f0.toList == x.f1.toList) l ∧ idxOf (fun y : S64 => y.f0.toList == x.f1.toList) l < zs.length) ∧ (x.f0 = 3 ∨ x.f0 = 4 ∨ x.f0 = 2 ∧ 1 ≤ x.f2 ∧ x.f2 ≤ 6)))
    && (decide (x.f6.length ≤ 9223372036854775806 ∧ l.length ≤ 9223372036854775806) && x.f6.all (fitR l zs d))
theorem bare_empty (x : S27) (hf : fieldsB x = true) (h : x.f0 ≠ 2 ∧ x.f0 ≠ 3 ∧ x.f0 ≠ 4) : x.f1.toList = [] := by
  rw [fieldsB_eq, Bool.and_eq_true] at hf
  have h := hf.1
  unfold flB at h
  rw [if_neg (by omega), if_neg (by omega), if_neg (by omega)] at h
  unfold firkinref17_flat.f at h
  rw [if_pos rfl] at h
  by_cases hq : x.f1.toList = []
  · exact hq
  · rw [show (⟨#[]⟩ : ByteArray).toList = [] by rw [ByteArray.toList_eq], if_neg hq] at h
    simp at h
theorem ok_good (l : List S64) (zs : List S33) (hz : zs.length = l.length) (hn : l.length ≤ 9223372036854775806) : ∀ (d : Nat) (x : S27), Lens d x → Good mayStep d x → Good (typedStep l) d x → fitR l zs d x = true := by
  intro d
  induction d with
  | zero => intro x _ h _; obtain ⟨e, h, _⟩ := h.step; omega
  | succ d ih =>
    intro x hl hm ht
    obtain ⟨e, he, ⟨s, hs⟩, hmk⟩ := hm.step
    obtain ⟨e', he', ⟨s', hs'⟩, htk⟩ := ht.step
    have he1 : e = d := by omega
    have he2 : e' = d := by omega
    rw [he1] at hmk
    rw [he2] at htk
    simp only [mayStep, Bool.and_eq_true] at hs
    have hty : typedB l x = true := hs'
    have hf := hs.2.1
    have hv := val_in x hf
    rw [fitR, Bool.and_eq_true, Bool.and_eq_true, List.all_eq_true]
    refine ⟨?_, decide_eq_true ⟨hl.1, hn⟩, fun y hy => ih y (hl.2 y hy) (hmk y hy) (htk y hy)⟩
    rcases fields_cases x hf with h | h | h
    · rw [if_pos (bare_empty x hf (by omega))]
      exact decide_eq_true ⟨.inl h, fun h5 => by omega⟩
    · have hne := name_ne _ h.2
      have hi := typed_found l x hty hne
      have hlt := idxOf_lt (fun y : S64 => y.f0.toList == x.f1.toList) l
      rw [if_neg hne]
      refine decide_eq_true ⟨⟨hi, by omega⟩, ?_⟩
      rcases h.1 with h | h | h
      · exact .inr (.inr ⟨h, (hv h).1⟩)
      · exact .inl h
      · exact .inr (.inl h)
    · rw [if_pos (bare_empty x hf (by omega))]
      exact decide_eq_true ⟨.inr h, fun h5 => kids_len x.f0 x.f6 hs.2.2 h5⟩
end Go.Proofs.Ytdedmhmomoejkaa.X
namespace Go.Proofs.Ytdedmhmomoejkaa.X
open Go.RowKit Go.Proofs.YtdedmhmomoejkaaW.PrintWords Go.Proofs.YtdedmhmomoejkaaW.PrintLast Go.Proofs.YtdedmhmomoejkaaW.PrintMore
attribute [local go_sem] max2_int max_two
set_option linter.unusedVariables false
set_option linter.unusedSimpArgs false
def AskPost (w : World) (r : Bool × Bool × Bool) : Ending → World → Prop := fun e w' => e = .returned (.agg #[.bool r.1, .bool r.2.1, .bool r.2.2]) ∧ Below w.heap.size w w'
theorem all_take (f : S27 → Bool) (l : List S27) (i : Nat) (h : i < l.length) : (l.take (i + 1)).all f = ((l.take i).all f && f (rd_T27 l (i : Int))) := by
  rw [List.take_succ_eq_append_getElem h, List.all_append, rd27_get l i h]; simp
theorem any_take (f : S27 → Bool) (l : List S27) (i : Nat) (h : i < l.length) : (l.take (i + 1)).any f = ((l.take i).any f || f (rd_T27 l (i : Int))) := by
  rw [List.take_succ_eq_append_getElem h, List.any_append, rd27_get l i h]; simp
theorem new2 (w : World) (o o' : Obj) : ((w.alloc o).alloc o').heap[w.heap.size + 1]? = some o' := by
  have h := heap_alloc_new (w.alloc o) o'
  simpa using h
theorem new3 (w : World) (o o' o'' : Obj) : (((w.alloc o).alloc o').alloc o'').heap[w.heap.size + 1 + 1]? = some o'' := by
  have h := heap_alloc_new ((w.alloc o).alloc o') o''
  simpa using h
theorem cut_wp {P : Program} {c : Code} {Q : Exit → Act → World → Prop} {a : Act} {E : World} (F : World → Prop) (hF : F E) (h : ∀ w1, F w1 → c.wp P Q a w1) : c.wp P Q a E := h E hF
theorem cut_then {K : Act → World → Prop} {Q : Exit → Act → World → Prop} {e : Exit} {a : Act} {E : World} (F : World → Prop) (hF : F E) (h : ∀ w1, F w1 → Exit.then K Q e a w1) : Exit.then K Q e a E := h E hF
def AskCalls (l0 : List S64) (l2 : List S33) (d : Nat) (x : S27) : Prop := ∀ (A0 : Option Addr) (c0 : Nat) (A8 : Option Addr) (c8 : Nat) (A2 : Option Addr) (c2 : Nat) (w : World)
    (hr0 : Kd.C k64 w A0 l0.length l0) (hc0 : l0.length ≤ c0) (hr8 : Kd.C k27 w A8 x.f6.length x.f6) (hc8 : x.f6.length ≤ c8) (hr2 : Kd.C k33 w A2 l2.length l2) (hc2 : l2.length ≤ c2),
    Calls Try.prog 32 #[.slice A0 l0.length c0, .agg #[.int .i64 x.f0, .string x.f1, .int .i64 x.f2, .bool x.f3.f0, .int .i64 x.f3.f1, .string x.f3.f2, .int .i64 x.f4, .string x.f5, .slice A8 x.f6.length c8], .slice A2 l2.length c2] w (AskPost w (askR l0 l2 d x))
set_option maxHeartbeats 16000000 in
set_option maxRecDepth 100000 in
theorem ask21.bare (l0 : List S64) (l2 : List S33) (d : Nat) (ih : ∀ (x : S27), fitR l0 l2 d x = true → AskCalls l0 l2 d x) (x : S27) (hok : fitR l0 l2 (d + 1) x = true) (he : x.f1.toList = []) : AskCalls l0 l2 (d + 1) x := by
  intro A0 c0 A8 c8 A2 c2 w hr0 hc0 hr8 hc8 hr2 hc2
  have hu27 := Try.underlying27
  have hu39 := Try.underlying39
  have hu33 := Try.underlying33
  have hu24 := Try.underlying24
  simp only [fitR, Bool.and_eq_true, decide_eq_true_eq, List.all_eq_true] at hok
  obtain ⟨h1, ⟨hlen, hl⟩, hkids⟩ := hok
  have HR0 := Aside0.mk hr0
  have HC0 := Aside0.mk hc0
  have HR8 := Aside0.mk hr8
  have HC8 := Aside0.mk hc8
  have HR2 := Aside0.mk hr2
  have HC2 := Aside0.mk hc2
  have IH := Aside0.mk ih
  have HK := Aside0.mk hkids
  clear hr0 hc0 hr8 hc8 hr2 hc2 ih hkids
  obtain ⟨Q, hQ⟩ : ∃ Q, Q = AskPost w (askR l0 l2 (d + 1) x) := ⟨_, rfl⟩
  rw [← hQ]
  have HQ := Aside0.mk hQ
  clear hQ
  rw [if_pos he] at h1
  have he0 : x.f1.toList.isEmpty = true := by rw [he]; rfl
  simp only [decide_eq_true_eq] at h1
  obtain ⟨ho, h5⟩ := h1
  have H5 := Aside0.mk h5
  clear h5
  by_cases o1 : x.f0 = 1
  · have o1b : (x.f0 == 1) = true := beq_iff_eq.2 o1
    have O := Aside0.mk o1
    clear ho o1
    go_enter Try.func32, Try.ntmps32
    go_wp2_with fail
    go_big_region
    go_wp2
    rw [HQ.out, askR, if_neg (by have := O.out; omega), if_neg (by have := O.out; omega), if_neg (by have := O.out; omega), leafR, if_pos O.out]
    refine bodyPost_ret (v := .agg #[.bool true, .bool false, .bool false]) (by simp [results, Try.results32, go_sem]) rfl ⟨rfl, ?_⟩
    repeat (first | exact Below.refl _ _ | apply below_alloc | apply pw_below_drewN | apply below_drew1)
  · have o1b : (x.f0 == 1) = false := beq_eq_false_iff_ne.2 o1
    have o2b : (x.f0 == 2) = false := beq_eq_false_iff_ne.2 (by omega)
    have o3b : (x.f0 == 3) = false := beq_eq_false_iff_ne.2 (by omega)
    have o4b : (x.f0 == 4) = false := beq_eq_false_iff_ne.2 (by omega)
    have O := Aside0.mk (show x.f0 = 5 ∨ x.f0 = 6 ∨ x.f0 = 7 by omega)
    clear ho o1
    go_enter Try.func32, Try.ntmps32
    go_wp2_with fail
    go_big_region
    refine cut_then (fun wX => Below w.heap.size w wX ∧ wX.heap[w.heap.size]? = some (.cells #[.int .i64 x.f0, .string x.f1, .int .i64 x.f2, .bool x.f3.f0, .int .i64 x.f3.f1, .string x.f3.f2, .int .i64 x.f4, .string x.f5, .slice A8 x.f6.length c8] 27 (0, 0)) ∧ wX.heap[w.heap.size + 1]? = some (.cells #[.bool false, .bool false, .bool false] 39 (0, 0))) ⟨?_, ?_, ?_⟩ ?_
    · repeat (first | exact Below.refl _ _ | apply below_alloc | apply pw_below_drewN | apply below_drew1)
    · exact blk_drew (blk_alloc (blk_alloc (heap_alloc_new w _) _) _)
    · exact blk_drew (blk_alloc (new2 w _ _) _)
    rintro w1 ⟨hb, bk, br⟩
    have HB := Aside0.mk hb
    have BK := Aside0.mk bk
    have BR := Aside0.mk br
    clear hb bk br
    by_cases h5 : x.f0 = 5
    · have o5b : (x.f0 == 5) = true := beq_iff_eq.2 h5
      have hl1 := H5.out h5
      have O5 := Aside0.mk h5
      clear h5
      obtain ⟨hz0, hz1, hz2, hz3, hz4, hz5, hz6, hz7, hz8⟩ := cz9_ BK.out
      obtain ⟨ad, A9, c9, e, g0, g1, g2, g3, g4, g5, g6, g7, g8, gl, gi⟩ := at_T27 (Kd.C_below HR8.out HB.out) 0 (by omega) (by omega)
      cases e
      have IC := Aside0.mk (IH.out (rd_T27 x.f6 0) (HK.out _ (rd27_mem x.f6 0 (by omega))) A0 c0 A9 c9 A2 c2 w1 (Kd.C_below HR0.out HB.out) HC0.out gi gl (Kd.C_below HR2.out HB.out) HC2.out)
      clear gi gl
      have hlz : (0 : Int) < (x.f6.length : Int) := by omega
      simp only [show (0 : Int).toNat * 9 = 0 from rfl, Addr.add_zero'] at g0 g1 g2 g3 g4 g5 g6 g7 g8
      clear hl1
      go_wp2_with fail
      refine IC.out.mono ?_
      rintro e w2 ⟨rfl, hb⟩
      have HB2 := Aside0.mk (below_step HB.out hb)
      have BR2 := Aside0.mk (blk_below BR.out hb)
      clear hb hz0 hz1 hz2 hz3 hz4 hz5 hz6 hz7 hz8 g0 g1 g2 g3 g4 g5 g6 g7 g8 IC BK BR HB
      go_wp2_with ((with_reducible refine gate_dst (N := 11) rfl ?_); refine box_event ?hg (N := 11) ?hd (cs := #[.bool false, .bool false, .bool false]) (t := 39) ?hr ?_; (case hd => rfl); (case hg => rfl); (case hr => first | (go_simp; done) | (go_simp; rfl)); intro g11 hg w3 hbox hb; have hn : w.heap.size + 1 ≠ g11 := hg ▸ Nat.ne_of_lt (blk_lt BR2.out); have hn' := hn.symm; have BR3 := Aside0.mk (blk_below BR2.out hb); have GE_g11 := Aside0.mk (hg ▸ below_size HB2.out : w.heap.size ≤ g11); have HB3 := Aside0.mk (below_step HB2.out hb); have BX_g11 := Aside0.mk hbox; clear hb hg hbox; obtain ⟨hf0, hf1, hf2⟩ := fz3_ BX_g11.out; obtain ⟨hc0, hc1, hc2⟩ := cz3_ BX_g11.out; obtain ⟨hr0, hr1, hr2⟩ := cz3_ BR3.out; obtain ⟨hq0, hq1, hq2⟩ := fz3_ BR3.out)
      rw [HQ.out, askR, if_pos O5.out]
      refine bodyPost_ret (results_cell_row rfl _ _ (w.heap.size + 1) 39 #[.bool (askR l0 l2 d (rd_T27 x.f6 0)).2.1, .bool (askR l0 l2 d (rd_T27 x.f6 0)).1, .bool (askR l0 l2 d (rd_T27 x.f6 0)).2.2] (0, 0) _ rfl (blk_all3_ (blk_far (blk_far (blk_far BR3.out hn _) hn _) hn _)) Try.underlying39 rfl (by kernel_rfl)) rfl ⟨rfl, ?_⟩
      exact below_set (below_set (below_set (below_set (below_set (below_set HB3.out GE_g11.out) GE_g11.out) GE_g11.out) (Nat.le_succ _)) (Nat.le_succ _)) (Nat.le_succ _)
    · have o5b : (x.f0 == 5) = false := beq_eq_false_iff_ne.2 h5
      have O67 := Aside0.mk (show x.f0 = 6 ∨ x.f0 = 7 by have := O.out; omega)
      clear h5
      obtain ⟨hz0, hz1, hz2, hz3, hz4, hz5, hz6, hz7, hz8⟩ := cz9_ BK.out
      go_wp2_with (first | ((with_reducible refine gate_dst (N := 12) rfl ?_); refine box_event ?hg (N := 12) ?hd (cs := #[.bool false, .bool false, .bool false]) (t := 39) ?hr ?_; (case hd => rfl); (case hg => rfl); (case hr => first | (go_simp; done) | (go_simp; rfl)); intro g12 hg w2 hbox hb; have hk : w.heap.size ≠ g12 := hg ▸ Nat.ne_of_lt (blk_lt BK.out); have hk' := hk.symm; have BK2 := Aside0.mk (blk_below BK.out hb); have hn : w.heap.size + 1 ≠ g12 := hg ▸ Nat.ne_of_lt (blk_lt BR.out); have hn' := hn.symm; have BR2 := Aside0.mk (blk_below BR.out hb); have GE_g12 := Aside0.mk (hg ▸ below_size HB.out : w.heap.size ≤ g12); have HB2 := Aside0.mk (below_step HB.out hb); have BX_g12 := Aside0.mk hbox; clear hb hg hbox; obtain ⟨hfa0, hfa1, hfa2⟩ := fz3_ BX_g12.out; obtain ⟨hca0, hca1, hca2⟩ := cz3_ BX_g12.out) | ((with_reducible refine gate_dst (N := 13) rfl ?_); refine box_event ?hg (N := 13) ?hd (cs := #[.bool false, .bool false, .bool false]) (t := 39) ?hr ?_; (case hd => rfl); (case hg => rfl); (case hr => first | (go_simp; done) | (go_simp; rfl)); intro g13 hg w3 hbox hb; have hk3 : w.heap.size ≠ g13 := hg ▸ Nat.ne_of_lt (blk_lt BK2.out); have hk3' := hk3.symm; have BK3 := Aside0.mk (blk_below BK2.out hb); have hn3 : w.heap.size + 1 ≠ g13 := hg ▸ Nat.ne_of_lt (blk_lt BR2.out); have hn3' := hn3.symm; have BR3 := Aside0.mk (blk_below BR2.out hb); have hx3 : g12 ≠ g13 := hg ▸ Nat.ne_of_lt (blk_lt BX_g12.out); have hx3' := hx3.symm; have BX3 := Aside0.mk (blk_below BX_g12.out hb); have GE_g13 := Aside0.mk (hg ▸ below_size HB2.out : w.heap.size ≤ g13); have HB3 := Aside0.mk (below_step HB2.out hb); have BX_g13 := Aside0.mk hbox; clear hb hg hbox; obtain ⟨hfb0, hfb1, hfb2⟩ := fz3_ BX_g13.out; obtain ⟨hcb0, hcb1, hcb2⟩ := cz3_ BX_g13.out; obtain ⟨ha0, ha1, ha2⟩ := cz3_ BX3.out; obtain ⟨hb0, hb1, hb2⟩ := fz3_ BX3.out))
      go_loopg [14] x.f6.length (fun gk v14 wr => ∃ kk : Nat, kk ≤ x.f6.length ∧ x.f6.length - kk ≤ gk ∧ v14 = .int .i64 kk ∧ Aside0 (Below w.heap.size w wr) ∧ Aside0 (wr.heap[w.heap.size]? = some (.cells #[.int .i64 x.f0, .string x.f1, .int .i64 x.f2, .bool x.f3.f0, .int .i64 x.f3.f1, .string x.f3.f2, .int .i64 x.f4, .string x.f5, .slice A8 x.f6.length c8] 27 (0, 0))) ∧ Aside0 (wr.heap[w.heap.size + 1]? = some (.cells #[.bool false, .bool false, .bool false] 39 (0, 0))) ∧ Aside0 (wr.heap[g12]? = some (.cells #[.bool ((x.f6.take kk).all (fun y => (askR l0 l2 d y).1)), .bool ((x.f6.take kk).all (fun y => (askR l0 l2 d y).2.1)), .bool false] 39 (0, 0))) ∧ Aside0 (wr.heap[g13]? = some (.cells #[.bool ((x.f6.take kk).any (fun y => (askR l0 l2 d y).1)), .bool ((x.f6.take kk).any (fun y => (askR l0 l2 d y).2.1)), .bool ((x.f6.take kk).any (fun y => (askR l0 l2 d y).2.2))] 39 (0, 0))))
      case atStart =>
        refine ⟨0, Nat.zero_le _, by omega, rfl, ⟨?_⟩, ⟨?_⟩, ⟨?_⟩, ⟨?_⟩, ⟨?_⟩⟩
        · exact below_set (below_set (below_set (below_set (below_set (below_set HB3.out GE_g12.out) GE_g12.out) GE_g12.out) GE_g13.out) GE_g13.out) GE_g13.out
        · exact blk_far (blk_far (blk_far (blk_far (blk_far (blk_far BK3.out hk _) hk _) hk _) hk3 _) hk3 _) hk3 _
        · exact blk_far (blk_far (blk_far (blk_far (blk_far (blk_far BR3.out hn _) hn _) hn _) hn3 _) hn3 _) hn3 _
        · exact blk_far (blk_far (blk_far (blk_all3_ BX3.out) hx3 _) hx3 _) hx3 _
        · exact blk_all3_ (blk_far (blk_far (blk_far BX_g13.out hx3' _) hx3' _) hx3' _)
      case round =>
        obtain ⟨kk, hkk, hg, rfl, BW, BKW, BRW, B12, B13⟩ := hrel
        obtain ⟨hz0, hz1, hz2, hz3, hz4, hz5, hz6, hz7, hz8⟩ := cz9_ BKW.out
        by_cases hlt : kk < x.f6.length
        · have hltz : (kk : Int) < (x.f6.length : Int) := by omega
          obtain ⟨ad, A9, c9, e, g0, g1, g2, g3, g4, g5, g6, g7, g8, gl, gi⟩ := at_T27 (Kd.C_below HR8.out BW.out) (kk : Int) (by omega) (by omega)
          cases e
          have IC := Aside0.mk (IH.out (rd_T27 x.f6 (kk : Int)) (HK.out _ (rd27_mem x.f6 kk hlt)) A0 c0 A9 c9 A2 c2 wr (Kd.C_below HR0.out BW.out) HC0.out gi gl (Kd.C_below HR2.out BW.out) HC2.out)
          clear gi gl
          simp only [Int.toNat_natCast] at g0 g1 g2 g3 g4 g5 g6 g7 g8
          go_wp2_with fail
          refine IC.out.mono ?_
          rintro e w4 ⟨rfl, hb⟩
          have HB4 := Aside0.mk (below_step BW.out hb)
          have BK4 := Aside0.mk (blk_below BKW.out hb)
          have BR4 := Aside0.mk (blk_below BRW.out hb)
          have C12 := Aside0.mk (blk_below B12.out hb)
          have C13 := Aside0.mk (blk_below B13.out hb)
          clear hb hz0 hz1 hz2 hz3 hz4 hz5 hz6 hz7 hz8 g0 g1 g2 g3 g4 g5 g6 g7 g8 IC BW BKW BRW B12 B13
          have E0 := all_take (fun y => (askR l0 l2 d y).1) x.f6 kk hlt
          have E1 := all_take (fun y => (askR l0 l2 d y).2.1) x.f6 kk hlt
          have E2 := any_take (fun y => (askR l0 l2 d y).1) x.f6 kk hlt
          have E3 := any_take (fun y => (askR l0 l2 d y).2.1) x.f6 kk hlt
          have E4 := any_take (fun y => (askR l0 l2 d y).2.2) x.f6 kk hlt
          generalize askR l0 l2 d (rd_T27 x.f6 (kk : Int)) = t at E0 E1 E2 E3 E4 ⊢
          generalize (x.f6.take kk).all (fun y => (askR l0 l2 d y).1) = a0 at E0 C12
          generalize (x.f6.take kk).all (fun y => (askR l0 l2 d y).2.1) = a1 at E1 C12
          generalize (x.f6.take kk).any (fun y => (askR l0 l2 d y).1) = b0 at E2 C13
          generalize (x.f6.take kk).any (fun y => (askR l0 l2 d y).2.1) = b1 at E3 C13
          generalize (x.f6.take kk).any (fun y => (askR l0 l2 d y).2.2) = b2 at E4 C13
          have E := Aside0.mk (And.intro E0 (And.intro E1 (And.intro E2 (And.intro E3 E4))))
          clear E0 E1 E2 E3 E4
          go_upto_region 23 with ((with_reducible refine gate_dst (N := 15) rfl ?_); refine box_event ?hg (N := 15) ?hd (cs := #[.bool false, .bool false, .bool false]) (t := 39) ?hr ?_; (case hd => rfl); (case hg => rfl); (case hr => first | (go_simp; done) | (go_simp; rfl)); intro g15 hg w5 hbox hb; have hk5 : w.heap.size ≠ g15 := hg ▸ Nat.ne_of_lt (blk_lt BK4.out); have hk5' := hk5.symm; have BK5 := Aside0.mk (blk_below BK4.out hb); have hn5 : w.heap.size + 1 ≠ g15 := hg ▸ Nat.ne_of_lt (blk_lt BR4.out); have hn5' := hn5.symm; have BR5 := Aside0.mk (blk_below BR4.out hb); have h12 : g12 ≠ g15 := hg ▸ Nat.ne_of_lt (blk_lt C12.out); have h12' := h12.symm; have D12 := Aside0.mk (blk_below C12.out hb); have h13 : g13 ≠ g15 := hg ▸ Nat.ne_of_lt (blk_lt C13.out); have h13' := h13.symm; have D13 := Aside0.mk (blk_below C13.out hb); have GE_g15 := Aside0.mk (hg ▸ below_size HB4.out : w.heap.size ≤ g15); have HB5 := Aside0.mk (below_step HB4.out hb); have BX_g15 := Aside0.mk hbox; clear hb hg hbox; obtain ⟨hf0, hf1, hf2⟩ := fz3_ BX_g15.out; obtain ⟨hc0, hc1, hc2⟩ := cz3_ BX_g15.out)
          go_cut [] (fun wx => Below w.heap.size w wx ∧ wx.heap[w.heap.size]? = some (.cells #[.int .i64 x.f0, .string x.f1, .int .i64 x.f2, .bool x.f3.f0, .int .i64 x.f3.f1, .string x.f3.f2, .int .i64 x.f4, .string x.f5, .slice (some ad) x.f6.length c8] 27 (0, 0)) ∧ wx.heap[w.heap.size + 1]? = some (.cells #[.bool false, .bool false, .bool false] 39 (0, 0)) ∧ wx.heap[g12]? = some (.cells #[.bool (a0 && t.1), .bool (a1 && t.2.1), .bool false] 39 (0, 0)) ∧ wx.heap[g13]? = some (.cells #[.bool b0, .bool b1, .bool b2] 39 (0, 0)) ∧ wx.heap[g15]? = some (.cells #[.bool t.1, .bool t.2.1, .bool t.2.2] 39 (0, 0)))
          case first =>
            obtain ⟨ha0, ha1, ha2⟩ := cz3_ D12.out
            obtain ⟨hi0, hi1, hi2⟩ := fz3_ D12.out
            cases a0 <;> cases a1 <;> (
              go_wp2_with fail
              go_meet
              case rel =>
                refine ⟨?_, ?_, ?_, ?_, ?_, ?_⟩
                · exact below_set (below_set (below_set (below_set (below_set (below_set HB5.out GE_g15.out) GE_g15.out) GE_g15.out) GE_g12.out) GE_g12.out) GE_g12.out
                · exact blk_far (blk_far (blk_far (blk_far (blk_far (blk_far BK5.out hk5 _) hk5 _) hk5 _) hk _) hk _) hk _
                · exact blk_far (blk_far (blk_far (blk_far (blk_far (blk_far BR5.out hn5 _) hn5 _) hn5 _) hn _) hn _) hn _
                · simp only [Bool.true_and, Bool.false_and]
                  exact blk_all3_ (blk_far (blk_far (blk_far D12.out h12 _) h12 _) h12 _)
                · exact blk_far (blk_far (blk_far (blk_far (blk_far (blk_far D13.out h13 _) h13 _) h13 _) hx3' _) hx3' _) hx3' _
                · exact blk_far (blk_far (blk_far (blk_all3_ BX_g15.out) h12' _) h12' _) h12' _)
          case rest =>
            obtain ⟨hB, hK, hR, h12c, h13c, h15c⟩ := hcut
            have HB6 := Aside0.mk hB
            have BK6 := Aside0.mk hK
            have BR6 := Aside0.mk hR
            have D6 := Aside0.mk h12c
            have F6 := Aside0.mk h13c
            obtain ⟨ha0, ha1, ha2⟩ := cz3_ h15c
            obtain ⟨hb0, hb1, hb2⟩ := cz3_ h13c
            obtain ⟨hj0, hj1, hj2⟩ := fz3_ h13c
            clear hB hK hR h12c h13c h15c HB5 BK5 BR5 D12 D13 BX_g15
            cases b0 <;> cases b1 <;> cases b2 <;> (
              go_wp2
              go_roundg (x.f6.length - (kk + 1))
              case measure => omega
              obtain ⟨E0, E1, E2, E3, E4⟩ := E.out
              refine ⟨kk + 1, by omega, by omega, by simp, ⟨?_⟩, ⟨?_⟩, ⟨?_⟩, ⟨?_⟩, ⟨?_⟩⟩
              · exact below_set (below_set (below_set HB6.out GE_g13.out) GE_g13.out) GE_g13.out
              · exact blk_far (blk_far (blk_far BK6.out hk3 _) hk3 _) hk3 _
              · exact blk_far (blk_far (blk_far BR6.out hn3 _) hn3 _) hn3 _
              · rw [E0, E1]
                exact blk_far (blk_far (blk_far D6.out hx3 _) hx3 _) hx3 _
              · rw [E2, E3, E4]
                simp only [Bool.true_or, Bool.false_or]
                exact blk_all3_ F6.out)
        · have hltz : ¬ ((kk : Int) < (x.f6.length : Int)) := by omega
          have hkl : kk = x.f6.length := by omega
          subst hkl
          rw [List.take_length] at B12 B13
          obtain ⟨ha0, ha1, ha2⟩ := cz3_ B12.out
          obtain ⟨hb0, hb1, hb2⟩ := cz3_ B13.out
          obtain ⟨hr0, hr1, hr2⟩ := cz3_ BRW.out
          obtain ⟨hq0, hq1, hq2⟩ := fz3_ BRW.out
          by_cases h6 : x.f0 = 6
          · have o6b : (x.f0 == 6) = true := beq_iff_eq.2 h6
            have O6 := Aside0.mk h6
            clear h6
            go_wp2
            rw [HQ.out, askR, if_neg (by have := O6.out; omega), if_pos O6.out]
            refine bodyPost_ret (results_cell_row rfl _ _ (w.heap.size + 1) 39 #[.bool (x.f6.all (fun y => (askR l0 l2 d y).1)), .bool (x.f6.any (fun y => (askR l0 l2 d y).2.1)), .bool (x.f6.any (fun y => (askR l0 l2 d y).2.2))] (0, 0) _ rfl (blk_all3_ BRW.out) Try.underlying39 rfl (by kernel_rfl)) rfl ⟨rfl, ?_⟩
            exact below_set (below_set (below_set BW.out (Nat.le_succ _)) (Nat.le_succ _)) (Nat.le_succ _)
          · have o6b : (x.f0 == 6) = false := beq_eq_false_iff_ne.2 h6
            have O7 := Aside0.mk (show x.f0 = 7 by have := O67.out; omega)
            clear h6
            go_wp2
            rw [HQ.out, askR, if_neg (by have := O7.out; omega), if_neg (by have := O7.out; omega), if_pos O7.out]
            refine bodyPost_ret (results_cell_row rfl _ _ (w.heap.size + 1) 39 #[.bool (x.f6.any (fun y => (askR l0 l2 d y).1)), .bool (x.f6.all (fun y => (askR l0 l2 d y).2.1)), .bool (x.f6.any (fun y => (askR l0 l2 d y).2.2))] (0, 0) _ rfl (blk_all3_ BRW.out) Try.underlying39 rfl (by kernel_rfl)) rfl ⟨rfl, ?_⟩
            exact below_set (below_set (below_set BW.out (Nat.le_succ _)) (Nat.le_succ _)) (Nat.le_succ _)
end Go.Proofs.Ytdedmhmomoejkaa.X
namespace Go.Proofs.Ytdedmhmomoejkaa.X
open Go.RowKit Go.Proofs.YtdedmhmomoejkaaW.PrintWords Go.Proofs.YtdedmhmomoejkaaW.PrintLast Go.Proofs.YtdedmhmomoejkaaW.PrintMore
attribute [local go_sem] max2_int max_two
set_option linter.unusedVariables false
set_option linter.unusedSimpArgs false
def ask21.T12 : Bool × List (List Nat × List Nat) := (true, [([], []), ([0], [0]), ([1], [1]), ([2, 1], [1, 2]), ([1], [1]), ([4, 1], [1, 4]), ([1], [1]), ([6, 1], [1, 6]), ([1], [1]), ([8, 1], [1, 8]), ([3, 5, 7, 9, 1, 1], [1, 3, 5, 7, 9]), ([1, 10], [1, 10]), ([], []), ([12, 10], [12]), ([13], [13]), ([14, 13], [13, 14]), ([13], [13]), ([16, 13], [13, 16]), ([13], [13]), ([13], [13]), ([19, 13], [13, 19]), ([18, 20, 13], [13, 18, 20]), ([21, 13], [13, 21]), ([13], [13]), ([23, 13], [13, 23]), ([15, 17, 22, 24, 13, 13], [13, 15, 17, 22, 24]), ([13, 25], [13, 25]), ([], []), ([11, 26, 27], [11, 26, 27]), ([28, 25, 0, 1, 2, 3, 4, 5, 6, 7, 8, 9, 10, 11, 12, 13, 14, 15, 16, 17, 18, 19, 20, 21, 22, 23, 24, 25, 26, 27, 28], [28])])
def ask21.B12 : List Nat := [0, 1, 3, 7, 3, 19, 3, 67, 3, 259, 1023, 2047, 0, 6143, 14335, 30719, 14335, 79871, 14335, 14335, 538623, 1849343, 3946495, 14335, 8402943, 33552383, 67106815, 0, 268435455, 536870911]
theorem ask21.tab12 : rtab .any (opsOf Try.f32 12) = ask21.T12 := by kernel_rfl
theorem ask21.bits12 : waitsOk ask21.T12.2 ask21.B12 = true := by kernel_rfl
set_option maxHeartbeats 16000000 in
set_option maxRecDepth 100000 in
theorem ask21.leaf (l0 : List S64) (l2 : List S33) (d : Nat) (x : S27) (hok : fitR l0 l2 (d + 1) x = true) (he : ¬ x.f1.toList = []) : AskCalls l0 l2 (d + 1) x := by
  intro A0 c0 A8 c8 A2 c2 w hr0 hc0 hr8 hc8 hr2 hc2
  have hu27 := Try.underlying27
  have hu39 := Try.underlying39
  have hu33 := Try.underlying33
  have hu24 := Try.underlying24
  simp only [fitR, Bool.and_eq_true, decide_eq_true_eq, List.all_eq_true] at hok
  obtain ⟨h1, ⟨hlen, hl⟩, hkids⟩ := hok
  have HR0 := Aside0.mk hr0
  have HC0 := Aside0.mk hc0
  have HR8 := Aside0.mk hr8
  have HC8 := Aside0.mk hc8
  have HR2 := Aside0.mk hr2
  have HC2 := Aside0.mk hc2
  have HK := Aside0.mk hkids
  clear hr0 hc0 hr8 hc8 hr2 hc2 hkids
  obtain ⟨Q, hQ⟩ : ∃ Q, Q = AskPost w (askR l0 l2 (d + 1) x) := ⟨_, rfl⟩
  rw [← hQ]
  have HQ := Aside0.mk hQ
  clear hQ
  rw [if_neg he] at h1
  have he0 : x.f1.toList.isEmpty = false := by cases hh : x.f1.toList with | nil => exact absurd hh he | cons a b => rfl
  simp only [decide_eq_true_eq] at h1
  obtain ⟨⟨hq0, hq1⟩, ho⟩ := h1
  obtain ⟨q, ⟨kF, hF⟩, hq⟩ := find12 l0 x.f1 hl
  rw [← hq] at hq0 hq1
  have HF := Aside0.mk (hF kF (Nat.le_refl _))
  have HE := Aside0.mk he
  have HZ : Aside0 (zoneP l0 l2 x = rd_T33 l2 q) := ⟨by rw [hq]; rfl⟩
  have HO := Aside0.mk ho
  clear hF he ho hq
  go_enter Try.func32, Try.ntmps32
  go_wp2_with fail
  refine (firkinref12_Find.calls kF A0 c0 l0 x.f1 q _ (Kd.C_below HR0.out ?_) HC0.out HF.out).mono ?_
  · repeat (first | exact Below.refl _ _ | apply below_alloc | apply pw_below_drewN | apply below_drew1)
  rintro e w1 ⟨rfl, hd⟩
  have hb := hd.below
  have HB : Aside0 (Below w.heap.size w w1) := ⟨below_step (by repeat (first | exact Below.refl _ _ | apply below_alloc | apply pw_below_drewN | apply below_drew1)) hb⟩
  have BK : Aside0 (w1.heap[w.heap.size]? = some (.cells #[.int .i64 x.f0, .string x.f1, .int .i64 x.f2, .bool x.f3.f0, .int .i64 x.f3.f1, .string x.f3.f2, .int .i64 x.f4, .string x.f5, .slice A8 x.f6.length c8] 27 (0, 0))) := ⟨blk_below (blk_alloc (blk_alloc (heap_alloc_new w _) _) _) hb⟩
  have BR : Aside0 (w1.heap[w.heap.size + 1]? = some (.cells #[.bool false, .bool false, .bool false] 39 (0, 0))) := ⟨blk_below (blk_alloc (new2 w _ _) _) hb⟩
  have BZ : Aside0 (w1.heap[w.heap.size + 1 + 1]? = some (.cells #[.int .i64 0, .int .i64 0, .bool false, .int .i64 0, .string ⟨#[]⟩, .bool false, .int .i64 0, .string ⟨#[]⟩] 33 (0, 0))) := ⟨blk_below (new3 w _ _ _) hb⟩
  clear hb hd HF
  obtain ⟨ad, e, g0, g1, g2, g3, g4, g5, g6, g7⟩ := at_T33 (Kd.C_below HR2.out HB.out) q hq0 hq1
  cases e
  obtain ⟨z, hz⟩ : ∃ z, z = rd_T33 l2 q := ⟨_, rfl⟩
  rw [← hz] at g0 g1 g2 g3 g4 g5 g6 g7
  have HZ2 : Aside0 (zoneP l0 l2 x = z) := ⟨HZ.out.trans hz.symm⟩
  clear hz HZ
  obtain ⟨hc0, hc1, hc2, hc3, hc4, hc5, hc6, hc7⟩ := cz8_ BZ.out
  obtain ⟨hf0, hf1, hf2, hf3, hf4, hf5, hf6, hf7⟩ := fz8_ BZ.out
  have hkz : w.heap.size ≠ w.heap.size + 1 + 1 := by omega
  have hrz : w.heap.size + 1 ≠ w.heap.size + 1 + 1 := by omega
  go_wp2_with fail
  refine cut_wp (fun wX => Below w.heap.size w wX ∧ wX.heap[w.heap.size]? = some (.cells #[.int .i64 x.f0, .string x.f1, .int .i64 x.f2, .bool x.f3.f0, .int .i64 x.f3.f1, .string x.f3.f2, .int .i64 x.f4, .string x.f5, .slice A8 x.f6.length c8] 27 (0, 0)) ∧ wX.heap[w.heap.size + 1]? = some (.cells #[.bool false, .bool false, .bool false] 39 (0, 0)) ∧ wX.heap[w.heap.size + 1 + 1]? = some (.cells #[.int .i64 z.f0, .int .i64 z.f1, .bool z.f2.f0, .int .i64 z.f2.f1, .string z.f2.f2, .bool z.f3.f0, .int .i64 z.f3.f1, .string z.f3.f2] 33 (0, 0))) ⟨?_, ?_, ?_, ?_⟩ ?_
  · exact below_set (below_set (below_set (below_set (below_set (below_set (below_set (below_set HB.out (by omega)) (by omega)) (by omega)) (by omega)) (by omega)) (by omega)) (by omega)) (by omega)
  · exact blk_far (blk_far (blk_far (blk_far (blk_far (blk_far (blk_far (blk_far BK.out hkz _) hkz _) hkz _) hkz _) hkz _) hkz _) hkz _) hkz _
  · exact blk_far (blk_far (blk_far (blk_far (blk_far (blk_far (blk_far (blk_far BR.out hrz _) hrz _) hrz _) hrz _) hrz _) hrz _) hrz _) hrz _
  · exact blk_all8_ BZ.out
  rintro w2 ⟨hB, hK, hR, hZ⟩
  have HB2 := Aside0.mk (below_drew1 hB)
  have BK2 := Aside0.mk (blk_drew hK)
  have BR2 := Aside0.mk (blk_drew hR)
  have BZ2 := Aside0.mk (blk_drew hZ)
  obtain ⟨hc0, hc1, hc2, hc3, hc4, hc5, hc6, hc7⟩ := cz8_ hZ
  obtain ⟨hd0, hd1, hd2, hd3, hd4, hd5, hd6, hd7, hd8⟩ := cz9_ hK
  clear hB hK hR hZ HB BK BR BZ g0 g1 g2 g3 g4 g5 g6 g7
  go_big_region
  refine cut_then (fun wX => wX = w2.drew) rfl ?_
  rintro w3 hw3
  rw [← hw3] at HB2 BK2 BR2 BZ2
  clear hw3 hc0 hc1 hc2 hc3 hc4 hc5 hc6 hc7 hd0 hd1 hd2 hd3 hd4 hd5 hd6 hd7 hd8
  obtain ⟨hd0, hd1, hd2, hd3, hd4, hd5, hd6, hd7, hd8⟩ := cz9_ BK2.out
  obtain ⟨hr0, hr1, hr2⟩ := cz3_ BR2.out
  obtain ⟨hq0, hq1, hq2⟩ := fz3_ BR2.out
  rcases HO.out with h3 | h4 | ⟨h2, hlo, hhi⟩
  · have o1b : (x.f0 == 1) = false := beq_eq_false_iff_ne.2 (by omega)
    have o3b : (x.f0 == 3) = true := beq_iff_eq.2 h3
    have OO := Aside0.mk h3
    clear h3 HO
    go_wp2
    rw [HQ.out, askR, if_neg (by have := OO.out; omega), if_neg (by have := OO.out; omega), if_neg (by have := OO.out; omega), HZ2.out, leafR, if_neg (by have := OO.out; omega), if_pos OO.out]
    refine bodyPost_ret (results_cell_row rfl _ _ (w.heap.size + 1) 39 #[.bool (decide (0 < z.f1)), .bool (decide (z.f1 < z.f0)), .bool (false)] (0, 0) _ rfl (blk_all3_ BR2.out) Try.underlying39 rfl (by kernel_rfl)) rfl ⟨rfl, ?_⟩
    exact below_set (below_set (below_set HB2.out (Nat.le_succ _)) (Nat.le_succ _)) (Nat.le_succ _)
  · have o1b : (x.f0 == 1) = false := beq_eq_false_iff_ne.2 (by omega)
    have o3b : (x.f0 == 3) = false := beq_eq_false_iff_ne.2 (by omega)
    have o2b : (x.f0 == 2) = false := beq_eq_false_iff_ne.2 (by omega)
    have o4b : (x.f0 == 4) = true := beq_iff_eq.2 h4
    have OO := Aside0.mk h4
    clear h4 HO
    go_wp2
    rw [HQ.out, askR, if_neg (by have := OO.out; omega), if_neg (by have := OO.out; omega), if_neg (by have := OO.out; omega), HZ2.out, leafR, if_neg (by have := OO.out; omega), if_neg (by have := OO.out; omega), if_neg (by have := OO.out; omega)]
    refine bodyPost_ret (results_cell_row rfl _ _ (w.heap.size + 1) 39 #[.bool (decide (z.f1 < z.f0)), .bool (decide (z.f1 < z.f0)), .bool (decide (0 < z.f1))] (0, 0) _ rfl (blk_all3_ BR2.out) Try.underlying39 rfl (by kernel_rfl)) rfl ⟨rfl, ?_⟩
    exact below_set (below_set (below_set HB2.out (Nat.le_succ _)) (Nat.le_succ _)) (Nat.le_succ _)
  · have o1b : (x.f0 == 1) = false := beq_eq_false_iff_ne.2 (by omega)
    have o3b : (x.f0 == 3) = false := beq_eq_false_iff_ne.2 (by omega)
    have o2b : (x.f0 == 2) = true := beq_iff_eq.2 h2
    have OO := Aside0.mk h2
    have LH := Aside0.mk (And.intro hlo hhi)
    clear h2 hlo hhi HO
    go_upto_region 12 with fail
    obtain ⟨r1, ⟨k1, hk1⟩, e1⟩ := yes21 z.f2.f0 z.f2.f1 z.f2.f2 z.f3.f0 z.f3.f1 z.f3.f2 x.f2 x.f3.f0 x.f3.f1 x.f3.f2
    obtain ⟨r2, ⟨k2, hk2⟩, e2⟩ := yes21 z.f2.f0 z.f2.f1 z.f2.f2 z.f3.f0 z.f3.f1 z.f3.f2 (back x.f2) x.f3.f0 x.f3.f1 x.f3.f2
    have Y1 := Aside0.mk (fun W => firkinref21_yes.calls k1 z.f2.f0 z.f2.f1 z.f2.f2 z.f3.f0 z.f3.f1 z.f3.f2 x.f2 x.f3.f0 x.f3.f1 x.f3.f2 r1 W (hk1 k1 (Nat.le_refl _)))
    have Y2 := Aside0.mk (fun W => firkinref21_yes.calls k2 z.f2.f0 z.f2.f1 z.f2.f2 z.f3.f0 z.f3.f1 z.f3.f2 (back x.f2) x.f3.f0 x.f3.f1 x.f3.f2 r2 W (hk2 k2 (Nat.le_refl _)))
    have E1 := Aside0.mk e1
    have E2 := Aside0.mk e2
    clear hk1 hk2 e1 e2
    refine cut_wp (fun wX => Below w.heap.size w wX ∧ wX.heap[w.heap.size]? = some (.cells #[.int .i64 x.f0, .string x.f1, .int .i64 x.f2, .bool x.f3.f0, .int .i64 x.f3.f1, .string x.f3.f2, .int .i64 x.f4, .string x.f5, .slice A8 x.f6.length c8] 27 (0, 0)) ∧ wX.heap[w.heap.size + 1]? = some (.cells #[.bool false, .bool false, .bool false] 39 (0, 0)) ∧ wX.heap[w.heap.size + 1 + 1]? = some (.cells #[.int .i64 z.f0, .int .i64 z.f1, .bool z.f2.f0, .int .i64 z.f2.f1, .string z.f2.f2, .bool z.f3.f0, .int .i64 z.f3.f1, .string z.f3.f2] 33 (0, 0)) ∧ wX.cell? ⟨w3.heap.size, x.f2.toNat, none⟩ = some (.int .i64 (back x.f2))) ⟨?_, ?_, ?_, ?_, ?_⟩ ?_
    · exact below_alloc HB2.out _
    · exact blk_alloc BK2.out _
    · exact blk_alloc BR2.out _
    · exact blk_alloc BZ2.out _
    · refine (blk_cell (heap_alloc_new w3 _) x.f2.toNat).trans ?_
      obtain ⟨lo, hi⟩ := LH.out
      have hh : x.f2 = 1 ∨ x.f2 = 2 ∨ x.f2 = 3 ∨ x.f2 = 4 ∨ x.f2 = 5 ∨ x.f2 = 6 := by omega
      rcases hh with h | h | h | h | h | h <;> (rw [h]; rfl)
    rintro w4 ⟨hB, hK, hR, hZ, hT⟩
    have HS4 := Aside0.mk (And.intro (below_drew1 hB) (And.intro (blk_drew hK) (And.intro (blk_drew hR) (And.intro (blk_drew hZ) (show w4.drew.cell? ⟨w3.heap.size, x.f2.toNat, none⟩ = some (.int .i64 (back x.f2)) from hT)))))
    clear HB2 BK2 BR2 BZ2 hd0 hd1 hd2 hd3 hd4 hd5 hd6 hd7 hd8 hr0 hr1 hr2 hq0 hq1 hq2
    cases hsm : decide (z.f1 < z.f0) with
    | false =>
      have HSM := Aside0.mk hsm
      clear hsm
      obtain ⟨hr0, hr1, hr2⟩ := cz3_ hR
      obtain ⟨hq0, hq1, hq2⟩ := fz3_ hR
      clear hB hK hZ hT
      go_big_region
      go_wp2
      rw [HQ.out, askR, if_neg (by have := OO.out; omega), if_neg (by have := OO.out; omega), if_neg (by have := OO.out; omega), HZ2.out, leafR, if_neg (by have := OO.out; omega), if_neg (by have := OO.out; omega), if_pos OO.out]
      rw [show decide (z.f0 > z.f1) = false from HSM.out]
      refine bodyPost_ret (results_cell_row rfl _ _ (w.heap.size + 1) 39 #[.bool false, .bool false, .bool (decide (0 < z.f1))] (0, 0) _ rfl (blk_all3_ HS4.out.2.2.1) Try.underlying39 rfl (by kernel_rfl)) rfl ⟨rfl, ?_⟩
      exact below_set (below_set (below_set HS4.out.1 (Nat.le_succ _)) (Nat.le_succ _)) (Nat.le_succ _)
    | true =>
      have HSM := Aside0.mk hsm
      clear hsm hB hK hR hZ hT
      have p0 : (0 ≤ x.f2) = True := eq_true (by have := LH.out.1; omega)
      have p1 : (x.f2 < 7) = True := eq_true (by have := LH.out.2; omega)
      refine start_ (n := 30) (S := (fun wX => Below w.heap.size w wX ∧ wX.heap[w.heap.size]? = some (.cells #[.int .i64 x.f0, .string x.f1, .int .i64 x.f2, .bool x.f3.f0, .int .i64 x.f3.f1, .string x.f3.f2, .int .i64 x.f4, .string x.f5, .slice A8 x.f6.length c8] 27 (0, 0)) ∧ wX.heap[w.heap.size + 1]? = some (.cells #[.bool false, .bool false, .bool false] 39 (0, 0)) ∧ wX.heap[w.heap.size + 1 + 1]? = some (.cells #[.int .i64 z.f0, .int .i64 z.f1, .bool z.f2.f0, .int .i64 z.f2.f1, .string z.f2.f2, .bool z.f3.f0, .int .i64 z.f3.f1, .string z.f3.f2] 33 (0, 0)) ∧ wX.cell? ⟨w3.heap.size, x.f2.toNat, none⟩ = some (.int .i64 (back x.f2)))) (ds := [29]) #[false, false, false, false, false, false, false, false, false, false, false, false, false, false, false, false, false, false, false, false, false, false, false, false, false, false, false, false, false, false] (by kernel_rfl) rfl rfl HS4.out (fun HS => ?_)
      refine with_tabW ask21.tab12 ask21.bits12 (fun HT_ HW_ => ?_)
      generalize w4.drew = w5 at HS ⊢
      clear HS4
      refine pure_ (i := 0) (N := some 48) (v := ?_) (a' := ?_) #[true, false, false, false, false, false, false, false, false, false, false, false, false, false, false, false, false, false, false, false, false, false, false, false, false, false, false, false, false, false] rfl rfl (any_of HT_.out (by kernel_rfl)) (fun _ _ _ h => h) (Or.inl ⟨by rfl, ?_⟩) ?_ ?_; rotate_left
      · intro w'; go_simp; with_reducible rfl
      rotate_left
      · simp only [Act.put, List.setIfInBounds_toArray, List.set_cons_zero, List.set_cons_succ, i64_w, i32_w]; rfl
      refine pure_ (i := 1) (N := some 49) (v := ?_) (a' := ?_) #[true, true, false, false, false, false, false, false, false, false, false, false, false, false, false, false, false, false, false, false, false, false, false, false, false, false, false, false, false, false] rfl rfl (any_of HT_.out (by kernel_rfl)) (fun _ _ _ h => h) (Or.inl ⟨by rfl, ?_⟩) ?_ ?_; rotate_left
      · intro w'; go_simp; with_reducible rfl
      rotate_left
      · simp only [Act.put, List.setIfInBounds_toArray, List.set_cons_zero, List.set_cons_succ, i64_w, i32_w]; rfl
      refine pure_ (i := 2) (N := some 50) (v := ?_) (a' := ?_) #[true, true, true, false, false, false, false, false, false, false, false, false, false, false, false, false, false, false, false, false, false, false, false, false, false, false, false, false, false, false] rfl rfl (any_of HT_.out (by kernel_rfl)) (fun _ _ _ h => h) (Or.inl ⟨by rfl, ?_⟩) ?_ ?_; rotate_left
      · intro w'; go_simp; with_reducible rfl
      rotate_left
      · simp only [Act.put, List.setIfInBounds_toArray, List.set_cons_zero, List.set_cons_succ, i64_w, i32_w]; rfl
      refine pure_ (i := 4) (N := some 52) (v := ?_) (a' := ?_) #[true, true, true, false, true, false, false, false, false, false, false, false, false, false, false, false, false, false, false, false, false, false, false, false, false, false, false, false, false, false] rfl rfl (any_of HT_.out (by kernel_rfl)) (fun _ _ _ h => h) (Or.inl ⟨by rfl, ?_⟩) ?_ ?_; rotate_left
      · intro w'; go_simp; with_reducible rfl
      rotate_left
      · simp only [Act.put, List.setIfInBounds_toArray, List.set_cons_zero, List.set_cons_succ, i64_w, i32_w]; rfl
      refine pure_ (i := 6) (N := some 54) (v := ?_) (a' := ?_) #[true, true, true, false, true, false, true, false, false, false, false, false, false, false, false, false, false, false, false, false, false, false, false, false, false, false, false, false, false, false] rfl rfl (any_of HT_.out (by kernel_rfl)) (fun _ _ _ h => h) (Or.inl ⟨by rfl, ?_⟩) ?_ ?_; rotate_left
      · intro w'; go_simp; with_reducible rfl
      rotate_left
      · simp only [Act.put, List.setIfInBounds_toArray, List.set_cons_zero, List.set_cons_succ, i64_w, i32_w]; rfl
      refine pure_ (i := 8) (N := some 56) (v := ?_) (a' := ?_) #[true, true, true, false, true, false, true, false, true, false, false, false, false, false, false, false, false, false, false, false, false, false, false, false, false, false, false, false, false, false] rfl rfl (any_of HT_.out (by kernel_rfl)) (fun _ _ _ h => h) (Or.inl ⟨by rfl, ?_⟩) ?_ ?_; rotate_left
      · intro w'; go_simp; with_reducible rfl
      rotate_left
      · simp only [Act.put, List.setIfInBounds_toArray, List.set_cons_zero, List.set_cons_succ, i64_w, i32_w]; rfl
      refine pure_ (i := 12) (N := some 60) (v := ?_) (a' := ?_) #[true, true, true, false, true, false, true, false, true, false, false, false, true, false, false, false, false, false, false, false, false, false, false, false, false, false, false, false, false, false] rfl rfl (any_of HT_.out (by kernel_rfl)) (fun _ _ _ h => h) (Or.inl ⟨by rfl, ?_⟩) ?_ ?_; rotate_left
      · intro w'; go_simp; with_reducible rfl
      rotate_left
      · simp only [Act.put, List.setIfInBounds_toArray, List.set_cons_zero, List.set_cons_succ, i64_w, i32_w]; rfl
      refine pure_ (i := 27) (N := some 75) (v := ?_) (a' := ?_) #[true, true, true, false, true, false, true, false, true, false, false, false, true, false, false, false, false, false, false, false, false, false, false, false, false, false, false, true, false, false] rfl rfl (any_of HT_.out (by kernel_rfl)) (fun _ _ _ h => h) (Or.inl ⟨by rfl, ?_⟩) ?_ ?_; rotate_left
      · intro w'; go_simp; with_reducible rfl
      rotate_left
      · simp only [Act.put, List.setIfInBounds_toArray, List.set_cons_zero, List.set_cons_succ, i64_w, i32_w]; rfl
      refine take_ (i := 3) (N := some 51) (v := ?_) (a' := ?_) #[true, true, true, true, true, false, true, false, true, false, false, false, true, false, false, false, false, false, false, false, false, false, false, false, false, false, false, true, false, false] rfl rfl (take_ofW HT_.out HW_.out (by kernel_rfl)) (fun _ _ _ h => h) (Or.inl ⟨by rfl, ?_⟩) HS ?_ ?_; rotate_left
      · rintro w' ⟨sB, sK, sR, sZ, sT⟩; obtain ⟨hc0, hc1, hc2, hc3, hc4, hc5, hc6, hc7⟩ := cz8_ sZ; obtain ⟨hd0, hd1, hd2, hd3, hd4, hd5, hd6, hd7, hd8⟩ := cz9_ sK; go_simp; with_reducible rfl
      rotate_left
      · simp only [Act.put, List.setIfInBounds_toArray, List.set_cons_zero, List.set_cons_succ, i64_w, i32_w]; rfl
      refine take_ (i := 5) (N := some 53) (v := ?_) (a' := ?_) #[true, true, true, true, true, true, true, false, true, false, false, false, true, false, false, false, false, false, false, false, false, false, false, false, false, false, false, true, false, false] rfl rfl (take_ofW HT_.out HW_.out (by kernel_rfl)) (fun _ _ _ h => h) (Or.inl ⟨by rfl, ?_⟩) HS ?_ ?_; rotate_left
      · rintro w' ⟨sB, sK, sR, sZ, sT⟩; obtain ⟨hc0, hc1, hc2, hc3, hc4, hc5, hc6, hc7⟩ := cz8_ sZ; obtain ⟨hd0, hd1, hd2, hd3, hd4, hd5, hd6, hd7, hd8⟩ := cz9_ sK; go_simp; with_reducible rfl
      rotate_left
      · simp only [Act.put, List.setIfInBounds_toArray, List.set_cons_zero, List.set_cons_succ, i64_w, i32_w]; rfl
      refine take_ (i := 7) (N := some 55) (v := ?_) (a' := ?_) #[true, true, true, true, true, true, true, true, true, false, false, false, true, false, false, false, false, false, false, false, false, false, false, false, false, false, false, true, false, false] rfl rfl (take_ofW HT_.out HW_.out (by kernel_rfl)) (fun _ _ _ h => h) (Or.inl ⟨by rfl, ?_⟩) HS ?_ ?_; rotate_left
      · rintro w' ⟨sB, sK, sR, sZ, sT⟩; obtain ⟨hc0, hc1, hc2, hc3, hc4, hc5, hc6, hc7⟩ := cz8_ sZ; obtain ⟨hd0, hd1, hd2, hd3, hd4, hd5, hd6, hd7, hd8⟩ := cz9_ sK; go_simp; with_reducible rfl
      rotate_left
      · simp only [Act.put, List.setIfInBounds_toArray, List.set_cons_zero, List.set_cons_succ, i64_w, i32_w]; rfl
      refine take_ (i := 9) (N := some 57) (v := ?_) (a' := ?_) #[true, true, true, true, true, true, true, true, true, true, false, false, true, false, false, false, false, false, false, false, false, false, false, false, false, false, false, true, false, false] rfl rfl (take_ofW HT_.out HW_.out (by kernel_rfl)) (fun _ _ _ h => h) (Or.inl ⟨by rfl, ?_⟩) HS ?_ ?_; rotate_left
      · rintro w' ⟨sB, sK, sR, sZ, sT⟩; obtain ⟨hc0, hc1, hc2, hc3, hc4, hc5, hc6, hc7⟩ := cz8_ sZ; obtain ⟨hd0, hd1, hd2, hd3, hd4, hd5, hd6, hd7, hd8⟩ := cz9_ sK; go_simp; with_reducible rfl
      rotate_left
      · simp only [Act.put, List.setIfInBounds_toArray, List.set_cons_zero, List.set_cons_succ, i64_w, i32_w]; rfl
      refine one_ (i := 10) (N := some 58) #[true, true, true, true, true, true, true, true, true, true, true, false, true, false, false, false, false, false, false, false, false, false, false, false, false, false, false, true, false, false] rfl rfl (one_of HT_.out (by kernel_rfl)) (by decide) (fun K hK => ?_)
      refine goes_ Try.func58 (by kernel_rfl) rfl #[.agg #[.bool z.f2.f0, .int .i64 z.f2.f1, .string z.f2.f2], .agg #[.bool z.f3.f0, .int .i64 z.f3.f1, .string z.f3.f2], .int .i64 x.f2, .agg #[.bool x.f3.f0, .int .i64 x.f3.f1, .string x.f3.f2]] (by rfl) rfl rfl (by (try simp only [List.map_toArray, List.map_cons, List.map_nil]); first | done | rfl) ?_
      refine (Y1.out _).mono ?_
      rintro e w6 ⟨rfl, hb⟩
      refine ⟨_, rfl, ?_⟩
      obtain ⟨sB, sK, sR, sZ, sT⟩ := HS
      refine hK.out _ _ ⟨below_step sB hb, blk_below sK hb, blk_below sR hb, blk_below sZ hb, (hb.cell (World.block_lt_of_cell? _ _ sT)).trans sT⟩ (fun HS => ?_)
      clear hK K sB sK sR sZ sT hb
      refine norm_ (a' := ?_) ?_ ?_; rotate_left
      · show Act.put _ (some 58) _ = _; simp only [Act.put, List.setIfInBounds_toArray, List.set_cons_zero, List.set_cons_succ, i64_w, i32_w]; rfl
      refine pure_ (i := 11) (N := some 59) (v := ?_) (a' := ?_) #[true, true, true, true, true, true, true, true, true, true, true, true, true, false, false, false, false, false, false, false, false, false, false, false, false, false, false, true, false, false] rfl rfl (any_of HT_.out (by kernel_rfl)) (fun _ _ _ h => h) (Or.inl ⟨by rfl, ?_⟩) ?_ ?_; rotate_left
      · intro w'; go_simp; with_reducible rfl
      rotate_left
      · simp only [Act.put, List.setIfInBounds_toArray, List.set_cons_zero, List.set_cons_succ, i64_w, i32_w]; rfl
      refine pure_ (i := 13) (N := some 61) (v := ?_) (a' := ?_) #[true, true, true, true, true, true, true, true, true, true, true, true, true, true, false, false, false, false, false, false, false, false, false, false, false, false, false, true, false, false] rfl rfl (any_of HT_.out (by kernel_rfl)) (fun _ _ _ h => h) (Or.inl ⟨by rfl, ?_⟩) ?_ ?_; rotate_left
      · intro w'; go_simp; with_reducible rfl
      rotate_left
      · simp only [Act.put, List.setIfInBounds_toArray, List.set_cons_zero, List.set_cons_succ, i64_w, i32_w]; rfl
      refine pure_ (i := 14) (N := some 62) (v := ?_) (a' := ?_) #[true, true, true, true, true, true, true, true, true, true, true, true, true, true, true, false, false, false, false, false, false, false, false, false, false, false, false, true, false, false] rfl rfl (any_of HT_.out (by kernel_rfl)) (fun _ _ _ h => h) (Or.inl ⟨by rfl, ?_⟩) ?_ ?_; rotate_left
      · intro w'; go_simp; with_reducible rfl
      rotate_left
      · simp only [Act.put, List.setIfInBounds_toArray, List.set_cons_zero, List.set_cons_succ, i64_w, i32_w]; rfl
      refine pure_ (i := 16) (N := some 64) (v := ?_) (a' := ?_) #[true, true, true, true, true, true, true, true, true, true, true, true, true, true, true, false, true, false, false, false, false, false, false, false, false, false, false, true, false, false] rfl rfl (any_of HT_.out (by kernel_rfl)) (fun _ _ _ h => h) (Or.inl ⟨by rfl, ?_⟩) ?_ ?_; rotate_left
      · intro w'; go_simp; with_reducible rfl
      rotate_left
      · simp only [Act.put, List.setIfInBounds_toArray, List.set_cons_zero, List.set_cons_succ, i64_w, i32_w]; rfl
      refine pure_ (i := 18) (N := some 66) (v := ?_) (a' := ?_) #[true, true, true, true, true, true, true, true, true, true, true, true, true, true, true, false, true, false, true, false, false, false, false, false, false, false, false, true, false, false] rfl rfl (any_of HT_.out (by kernel_rfl)) (fun _ _ _ h => h) (Or.inl ⟨by rfl, ?_⟩) ?_ ?_; rotate_left
      · intro w'; go_simp; with_reducible rfl
      rotate_left
      · simp only [Act.put, List.setIfInBounds_toArray, List.set_cons_zero, List.set_cons_succ, i64_w, i32_w]; rfl
      refine pure_ (i := 19) (N := some 67) (v := ?_) (a' := ?_) #[true, true, true, true, true, true, true, true, true, true, true, true, true, true, true, false, true, false, true, true, false, false, false, false, false, false, false, true, false, false] rfl rfl (any_of HT_.out (by kernel_rfl)) (fun _ _ _ h => h) (Or.inl ⟨by rfl, ?_⟩) ?_ ?_; rotate_left
      · intro w'; go_simp; with_reducible rfl
      rotate_left
      · simp only [Act.put, List.setIfInBounds_toArray, List.set_cons_zero, List.set_cons_succ, i64_w, i32_w]; rfl
      refine pure_ (i := 23) (N := some 71) (v := ?_) (a' := ?_) #[true, true, true, true, true, true, true, true, true, true, true, true, true, true, true, false, true, false, true, true, false, false, false, true, false, false, false, true, false, false] rfl rfl (any_of HT_.out (by kernel_rfl)) (fun _ _ _ h => h) (Or.inl ⟨by rfl, ?_⟩) ?_ ?_; rotate_left
      · intro w'; go_simp; with_reducible rfl
      rotate_left
      · simp only [Act.put, List.setIfInBounds_toArray, List.set_cons_zero, List.set_cons_succ, i64_w, i32_w]; rfl
      refine take_ (i := 15) (N := some 63) (v := ?_) (a' := ?_) #[true, true, true, true, true, true, true, true, true, true, true, true, true, true, true, true, true, false, true, true, false, false, false, true, false, false, false, true, false, false] rfl rfl (take_ofW HT_.out HW_.out (by kernel_rfl)) (fun _ _ _ h => h) (Or.inl ⟨by rfl, ?_⟩) HS ?_ ?_; rotate_left
      · rintro w' ⟨sB, sK, sR, sZ, sT⟩; obtain ⟨hc0, hc1, hc2, hc3, hc4, hc5, hc6, hc7⟩ := cz8_ sZ; obtain ⟨hd0, hd1, hd2, hd3, hd4, hd5, hd6, hd7, hd8⟩ := cz9_ sK; go_simp; with_reducible rfl
      rotate_left
      · simp only [Act.put, List.setIfInBounds_toArray, List.set_cons_zero, List.set_cons_succ, i64_w, i32_w]; rfl
      refine take_ (i := 17) (N := some 65) (v := ?_) (a' := ?_) #[true, true, true, true, true, true, true, true, true, true, true, true, true, true, true, true, true, true, true, true, false, false, false, true, false, false, false, true, false, false] rfl rfl (take_ofW HT_.out HW_.out (by kernel_rfl)) (fun _ _ _ h => h) (Or.inl ⟨by rfl, ?_⟩) HS ?_ ?_; rotate_left
      · rintro w' ⟨sB, sK, sR, sZ, sT⟩; obtain ⟨hc0, hc1, hc2, hc3, hc4, hc5, hc6, hc7⟩ := cz8_ sZ; obtain ⟨hd0, hd1, hd2, hd3, hd4, hd5, hd6, hd7, hd8⟩ := cz9_ sK; go_simp; with_reducible rfl
      rotate_left
      · simp only [Act.put, List.setIfInBounds_toArray, List.set_cons_zero, List.set_cons_succ, i64_w, i32_w]; rfl
      refine take_ (i := 20) (N := some 68) (v := ?_) (a' := ?_) #[true, true, true, true, true, true, true, true, true, true, true, true, true, true, true, true, true, true, true, true, true, false, false, true, false, false, false, true, false, false] rfl rfl (take_ofW HT_.out HW_.out (by kernel_rfl)) (fun _ _ _ h => h) (Or.inl ⟨by rfl, ?_⟩) HS ?_ ?_; rotate_left
      · rintro w' ⟨sB, sK, sR, sZ, sT⟩; obtain ⟨hc0, hc1, hc2, hc3, hc4, hc5, hc6, hc7⟩ := cz8_ sZ; obtain ⟨hd0, hd1, hd2, hd3, hd4, hd5, hd6, hd7, hd8⟩ := cz9_ sK; go_simp; with_reducible rfl
      rotate_left
      · simp only [Act.put, List.setIfInBounds_toArray, List.set_cons_zero, List.set_cons_succ, i64_w, i32_w]; rfl
      refine pure_ (i := 21) (N := some 69) (v := ?_) (a' := ?_) #[true, true, true, true, true, true, true, true, true, true, true, true, true, true, true, true, true, true, true, true, true, true, false, true, false, false, false, true, false, false] rfl rfl (any_of HT_.out (by kernel_rfl)) (fun _ _ _ h => h) (Or.inl ⟨by rfl, ?_⟩) ?_ ?_; rotate_left
      · intro w'; go_simp; with_reducible rfl
      rotate_left
      · simp only [Act.put, List.setIfInBounds_toArray, List.set_cons_zero, List.set_cons_succ, i64_w, i32_w]; rfl
      refine take_ (i := 22) (N := some 70) (v := ?_) (a' := ?_) #[true, true, true, true, true, true, true, true, true, true, true, true, true, true, true, true, true, true, true, true, true, true, true, true, false, false, false, true, false, false] rfl rfl (take_ofW HT_.out HW_.out (by kernel_rfl)) (fun _ _ _ h => h) (Or.inl ⟨by rfl, ?_⟩) HS ?_ ?_; rotate_left
      · rintro w' ⟨sB, sK, sR, sZ, sT⟩; obtain ⟨hc0, hc1, hc2, hc3, hc4, hc5, hc6, hc7⟩ := cz8_ sZ; obtain ⟨hd0, hd1, hd2, hd3, hd4, hd5, hd6, hd7, hd8⟩ := cz9_ sK; go_simp; with_reducible rfl
      rotate_left
      · simp only [Act.put, List.setIfInBounds_toArray, List.set_cons_zero, List.set_cons_succ, i64_w, i32_w]; rfl
      refine take_ (i := 24) (N := some 72) (v := ?_) (a' := ?_) #[true, true, true, true, true, true, true, true, true, true, true, true, true, true, true, true, true, true, true, true, true, true, true, true, true, false, false, true, false, false] rfl rfl (take_ofW HT_.out HW_.out (by kernel_rfl)) (fun _ _ _ h => h) (Or.inl ⟨by rfl, ?_⟩) HS ?_ ?_; rotate_left
      · rintro w' ⟨sB, sK, sR, sZ, sT⟩; obtain ⟨hc0, hc1, hc2, hc3, hc4, hc5, hc6, hc7⟩ := cz8_ sZ; obtain ⟨hd0, hd1, hd2, hd3, hd4, hd5, hd6, hd7, hd8⟩ := cz9_ sK; go_simp; with_reducible rfl
      rotate_left
      · simp only [Act.put, List.setIfInBounds_toArray, List.set_cons_zero, List.set_cons_succ, i64_w, i32_w]; rfl
      refine one_ (i := 25) (N := some 73) #[true, true, true, true, true, true, true, true, true, true, true, true, true, true, true, true, true, true, true, true, true, true, true, true, true, true, false, true, false, false] rfl rfl (one_of HT_.out (by kernel_rfl)) (by decide) (fun K hK => ?_)
      refine goes_ Try.func58 (by kernel_rfl) rfl #[.agg #[.bool z.f2.f0, .int .i64 z.f2.f1, .string z.f2.f2], .agg #[.bool z.f3.f0, .int .i64 z.f3.f1, .string z.f3.f2], .int .i64 (back x.f2), .agg #[.bool x.f3.f0, .int .i64 x.f3.f1, .string x.f3.f2]] (by rfl) rfl rfl (by (try simp only [List.map_toArray, List.map_cons, List.map_nil]); first | done | rfl) ?_
      refine (Y2.out _).mono ?_
      rintro e w7 ⟨rfl, hb⟩
      refine ⟨_, rfl, ?_⟩
      obtain ⟨sB, sK, sR, sZ, sT⟩ := HS
      refine hK.out _ _ ⟨below_step sB hb, blk_below sK hb, blk_below sR hb, blk_below sZ hb, (hb.cell (World.block_lt_of_cell? _ _ sT)).trans sT⟩ (fun HS => ?_)
      clear hK K sB sK sR sZ sT hb
      refine norm_ (a' := ?_) ?_ ?_; rotate_left
      · show Act.put _ (some 73) _ = _; simp only [Act.put, List.setIfInBounds_toArray, List.set_cons_zero, List.set_cons_succ, i64_w, i32_w]; rfl
      refine pure_ (i := 26) (N := some 74) (v := ?_) (a' := ?_) #[true, true, true, true, true, true, true, true, true, true, true, true, true, true, true, true, true, true, true, true, true, true, true, true, true, true, true, true, false, false] rfl rfl (any_of HT_.out (by kernel_rfl)) (fun _ _ _ h => h) (Or.inl ⟨by rfl, ?_⟩) ?_ ?_; rotate_left
      · intro w'; go_simp; with_reducible rfl
      rotate_left
      · simp only [Act.put, List.setIfInBounds_toArray, List.set_cons_zero, List.set_cons_succ, i64_w, i32_w]; rfl
      refine pure_ (i := 28) (N := some 76) (v := ?_) (a' := ?_) #[true, true, true, true, true, true, true, true, true, true, true, true, true, true, true, true, true, true, true, true, true, true, true, true, true, true, true, true, true, false] rfl rfl (any_of HT_.out (by kernel_rfl)) (fun _ _ _ h => h) (Or.inl ⟨by rfl, ?_⟩) ?_ ?_; rotate_left
      · intro w'; go_simp; with_reducible rfl
      rotate_left
      · simp only [Act.put, List.setIfInBounds_toArray, List.set_cons_zero, List.set_cons_succ, i64_w, i32_w]; rfl
      refine last_ (i := 29) (N := none) #[true, true, true, true, true, true, true, true, true, true, true, true, true, true, true, true, true, true, true, true, true, true, true, true, true, true, true, true, true, true] rfl rfl (one_of HT_.out (by kernel_rfl)) (by decide) (fun K hK => ?_)
      obtain ⟨sB, sK, sR, sZ, sT⟩ := HS
      obtain ⟨hr0, hr1, hr2⟩ := cz3_ sR
      obtain ⟨hq0, hq1, hq2⟩ := fz3_ sR
      refine skip_ (w1 := ?_) (by rfl) rfl ?_ ?_; rotate_left
      · go_simp; rfl
      refine hK.out _ _ ?_
      clear hK K
      refine done_ (done_of HT_.out (by kernel_rfl)) ?_
      go_wp2
      rw [HQ.out, askR, if_neg (by have := OO.out; omega), if_neg (by have := OO.out; omega), if_neg (by have := OO.out; omega), HZ2.out, leafR, if_neg (by have := OO.out; omega), if_neg (by have := OO.out; omega), if_pos OO.out]
      rw [show decide (z.f0 > z.f1) = true from HSM.out, Bool.true_and, Bool.true_and, ← E1.out, ← E2.out]
      refine bodyPost_ret (results_cell_row rfl _ _ (w.heap.size + 1) 39 #[.bool r1, .bool r2, .bool (decide (0 < z.f1))] (0, 0) _ rfl (blk_all3_ sR) Try.underlying39 rfl (by kernel_rfl)) rfl ⟨rfl, ?_⟩
      exact below_set (below_set (below_set sB (Nat.le_succ _)) (Nat.le_succ _)) (Nat.le_succ _)
theorem ask21.at (l0 : List S64) (l2 : List S33) : ∀ (d : Nat) (x : S27), fitR l0 l2 d x = true → AskCalls l0 l2 d x := by
  intro d
  induction d with
  | zero => intro x h; simp [fitR] at h
  | succ d ih =>
    intro x hok
    by_cases he : x.f1.toList = []
    · exact ask21.bare l0 l2 d ih x hok he
    · exact ask21.leaf l0 l2 d x hok he
end Go.Proofs.Ytdedmhmomoejkaa.X
namespace Go.Proofs.Ytdedmhmomoejkaa.X
open Go.RowKit Go.Proofs.YtdedmhmomoejkaaW.PrintWords Go.Proofs.YtdedmhmomoejkaaW.PrintLast Go.Proofs.YtdedmhmomoejkaaW.PrintMore
attribute [local go_sem] max2_int max_two
set_option linter.unusedVariables false
set_option linter.unusedSimpArgs false
def firkinref21_ask.f (l0 : List S64) (a1_0 : Int) (a1_1 : ByteArray) (a1_2 : Int) (a1_3 : Bool) (a1_4 : Int) (a1_5 : ByteArray) (a1_6 : Int) (a1_7 : ByteArray) (l1_8 : List S27) (l2 : List S33) : Option (Bool × Bool × Bool) :=
  if fitR l0 l2 6 ⟨a1_0, a1_1, a1_2, ⟨a1_3, a1_4, a1_5⟩, a1_6, a1_7, l1_8⟩ = true then some (askR l0 l2 6 ⟨a1_0, a1_1, a1_2, ⟨a1_3, a1_4, a1_5⟩, a1_6, a1_7, l1_8⟩) else none
set_option maxHeartbeats 8000000 in
set_option maxRecDepth 100000 in
theorem firkinref21_ask.calls (A0 : Option Addr) (c0 : Nat) (l0 : List (S64)) (a1_0 : Int) (a1_1 : ByteArray) (a1_2 : Int) (a1_3 : Bool) (a1_4 : Int) (a1_5 : ByteArray) (a1_6 : Int) (a1_7 : ByteArray) (A1_8 : Option Addr) (c1_8 : Nat) (l1_8 : List (S27)) (A2 : Option Addr) (c2 : Nat) (l2 : List (S33)) (r1 : Bool) (r2 : Bool) (r3 : Bool) (w : World) (hr0 : Kd.C k64 w A0 l0.length l0) (hc0 : l0.length ≤ c0) (hr1_8 : Kd.C k27 w A1_8 l1_8.length l1_8) (hc1_8 : l1_8.length ≤ c1_8) (hr2 : Kd.C k33 w A2 l2.length l2) (hc2 : l2.length ≤ c2) (h : firkinref21_ask.f l0 a1_0 a1_1 a1_2 a1_3 a1_4 a1_5 a1_6 a1_7 l1_8 l2 = some (r1, r2, r3)) :
    Calls Try.prog 32 #[.slice A0 l0.length c0, .agg #[.int .i64 a1_0, .string a1_1, .int .i64 a1_2, .bool a1_3, .int .i64 a1_4, .string a1_5, .int .i64 a1_6, .string a1_7, .slice A1_8 l1_8.length c1_8], .slice A2 l2.length c2] w fun e w' => e = .returned (.agg #[.bool r1, .bool r2, .bool r3]) ∧ Below w.heap.size w w' := by
  unfold firkinref21_ask.f at h
  by_cases hk : fitR l0 l2 6 ⟨a1_0, a1_1, a1_2, ⟨a1_3, a1_4, a1_5⟩, a1_6, a1_7, l1_8⟩ = true
  · rw [if_pos hk] at h
    have h := Option.some.inj h
    refine (ask21.at l0 l2 6 _ hk A0 c0 A1_8 c1_8 A2 c2 w hr0 hc0 hr1_8 hc1_8 hr2 hc2).mono ?_
    rintro e w' ⟨rfl, hb⟩
    exact ⟨by rw [h], hb⟩
  · rw [if_neg hk] at h
    exact absurd h (by simp)
end Go.Proofs.Ytdedmhmomoejkaa.X
