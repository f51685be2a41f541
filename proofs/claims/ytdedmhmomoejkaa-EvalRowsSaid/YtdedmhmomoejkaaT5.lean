/- Words and walks for evalRows_holds, part 5 of the texts that a program of this session laid together. -/
import Derived.Test.YtdedmhmomoejkaaT2
import Derived.Test.YtdedmhmomoejkaaT4
namespace Go.Proofs.Ytdedmhmomoejkaa.X
open Go.RowKit Go.Proofs.YtdedmhmomoejkaaW.PrintWords Go.Proofs.YtdedmhmomoejkaaW.PrintLast Go.Proofs.YtdedmhmomoejkaaW.PrintMore
attribute [local go_sem] max2_int max_two
set_option linter.unusedVariables false
set_option linter.unusedSimpArgs false
def glob_at.l0 : Nat → List Int → List Int → Int → Int → Option (Bool)
 | 0, _, _, _, _ => none
 | k + 1, x1, x12, x13, x14 => if x14 < x13 then (if 0 ≤ x14 then (if x14 < (x12.length : Int) then (if (rd x12 x14) = 95 then (glob_at.l0 k x1 x12 x13 (wrap64 (x14 + 1))) else (if x14 < (x1.length : Int) then (if (rd x12 x14) = (rd x1 x14) then (glob_at.l0 k x1 x12 x13 (wrap64 (x14 + 1))) else (some false)) else (none))) else (none)) else (none)) else (some true)
def glob_at.f (k : Nat) (l0 : List Int) (l1 : List Int) : Option (Bool) := if (l0.length : Int) > (l1.length : Int) then (some false) else (glob_at.l0 k l1 l0 (l0.length : Int) 0)
theorem glob_at.mono_l : ∀ k, (∀ y0 y1 y2 y3, LeO (glob_at.l0 k y0 y1 y2 y3) (glob_at.l0 (k + 1) y0 y1 y2 y3))
 | 0 => fun _ _ _ _ r h => by simp [glob_at.l0] at h
 | k + 1 => by
  have ih0 := glob_at.mono_l k
  ·intro y0 y1 y2 y3
   unfold glob_at.l0
   repeat' first
   | (with_reducible exact ih0 _ _ _ _)
   | (with_reducible exact LeO.refl _)
   | (with_reducible exact LeO.none _)
   | (with_reducible refine LeO.ite ?_ ?_)
   | (with_reducible refine LeO.bind ?_ (fun _ => ?_))
   | exact ih0 _ _ _ _
   | exact LeO.none _
   | refine LeO.ite ?_ ?_
   | refine LeO.bind ?_ (fun _ => ?_)
theorem glob_at.mono : ∀ a0 a1 k, LeO (glob_at.f k a0 a1) (glob_at.f (k + 1) a0 a1) := by
 intro a0 a1 k
 have ih0 := glob_at.mono_l k
 unfold glob_at.f
 repeat' first
   | (with_reducible exact ih0 _ _ _ _)
   | (with_reducible exact LeO.refl _)
   | (with_reducible exact LeO.none _)
   | (with_reducible refine LeO.ite ?_ ?_)
   | (with_reducible refine LeO.bind ?_ (fun _ => ?_))
   | exact ih0 _ _ _ _
   | exact LeO.none _
   | refine LeO.ite ?_ ?_
   | refine LeO.bind ?_ (fun _ => ?_)
set_option maxHeartbeats 8000000 in
set_option maxRecDepth 100000 in
theorem glob_at.calls (k : Nat) (A0 : Option Addr) (c0 : Nat) (l0 : List Int) (A1 : Option Addr) (c1 : Nat) (l1 : List Int) (r : Bool) (w : World) (hr0 : Kd.C (Kd.int .i32) w A0 l0.length l0) (hc0 : l0.length ≤ c0) (hr1 : Kd.C (Kd.int .i32) w A1 l1.length l1) (hc1 : l1.length ≤ c1) (h : glob_at.f k l0 l1 = some r) :
  Calls Try.prog 102 #[.slice A0 l0.length c0, .slice A1 l1.length c1] w fun e w' => e = .returned (.bool r) ∧ Drawn0 w w' := by
 have HR0 := Aside0.mk hr0
 have HC0 := Aside0.mk hc0
 clear hr0 hc0
 have HR1 := Aside0.mk hr1
 have HC1 := Aside0.mk hc1
 clear hr1 hc1
 have H : (if (l0.length : Int) > (l1.length : Int) then (some false) else (glob_at.l0 k l1 l0 (l0.length : Int) 0)) = some r := h
 clear h
 by_cases c3 : (l0.length : Int) > (l1.length : Int)
 ·rw [if_pos c3] at H
  have c3b0 : decide ((l1.length : Int) < (l0.length : Int)) = true := decide_eq_true c3
  have c3b1 : decide (l1.length < l0.length) = true := decide_eq_true (Int.ofNat_lt.mp c3)
  clear c3
  obtain rfl := Option.some.inj H
  go_enter Try.func102, Try.ntmps102
  go_wp2
  go_ret
  exact ⟨by first | rfl | (simp; done) | (simp [*]; done), by repeat (first | exact Drawn0.refl _ | apply Drawn0.step)⟩
 ·rw [if_neg c3] at H
  have c3b0 : decide ((l1.length : Int) < (l0.length : Int)) = false := decide_eq_false c3
  have c3b1 : decide (l1.length < l0.length) = false := decide_eq_false (fun h => c3 (Int.ofNat_lt.mpr h))
  clear c3
  have H' := Aside0.mk H
  clear H
  go_enter Try.func102, Try.ntmps102
  go_wp2
  go_loopg [14] k (fun kq v14 w' => ∃ (x14_1 : Int), v14 = .int .i64 x14_1 ∧ Aside0 (glob_at.l0 kq l1 l0 (l0.length : Int) x14_1 = some r) ∧ Aside0 (kq ≤ k) ∧ Drawn0 w w')
  case atStart => exact ⟨_, (by first | rfl | (simp; done) | (simp [*]; done)), H', ⟨Nat.le_refl _⟩, by repeat (first | exact Drawn0.refl _ | apply Drawn0.step)⟩
  case round =>
   clear H'
   try clear c1
   try clear p2
   try clear c3
   try clear c3b0
   try clear c3b1
   obtain ⟨x14_1, rfl, HA, HK1, ⟨m1, rfl⟩⟩ := hrel
   cases gk with
   | zero => exact absurd HA.out (by simp [glob_at.l0])
   | succ k1 =>
    have H := HA.out
    clear HA
    simp only [glob_at.l0] at H
    by_cases c4 : x14_1 < (l0.length : Int)
    ·rw [if_pos c4] at H
     have c4b0 : decide (x14_1 < (l0.length : Int)) = true := decide_eq_true c4
     clear c4
     by_cases c5 : 0 ≤ x14_1
     ·rw [if_pos c5] at H
      have c5b0 : decide (0 ≤ x14_1) = true := decide_eq_true c5
      clear c5
      by_cases c6 : x14_1 < (l0.length : Int)
      ·rw [if_pos c6] at H
       have c6b0 : decide (x14_1 < (l0.length : Int)) = true := decide_eq_true c6
       clear c6
       by_cases c7 : (rd l0 x14_1) = 95
       ·rw [if_pos c7] at H
        have c7b0 : ((rd l0 x14_1) == 95) = true := beq_iff_eq.mpr c7
        have c7b1 : ((rd l0 x14_1) != 95) = false := bne_eq_false_iff_eq.mpr c7
        clear c7
        have H' := Aside0.mk H
        clear H
        have p503 : 0 ≤ (x14_1 : Int) := dt_
        have q503 : x14_1 < (l0.length : Int) := dt_
        obtain ⟨ad503, e503, hx503_0⟩ := Kd.at_int HR0.out x14_1 p503 q503
        cases e503
        replace p503 := eq_true p503
        replace q503 := eq_true q503
        go_wp2
        go_roundg k1
        case measure => have := HK1.out; omega
        case rel => exact ⟨_, (by first | rfl | (simp; done) | (simp [*]; done)), H', ⟨by have := HK1.out; omega⟩, by repeat (first | exact Drawn0.refl _ | apply Drawn0.step)⟩
       ·rw [if_neg c7] at H
        have c7b0 : ((rd l0 x14_1) == 95) = false := beq_eq_false_iff_ne.mpr c7
        have c7b1 : ((rd l0 x14_1) != 95) = true := bne_iff_ne.mpr c7
        by_cases c8 : x14_1 < (l1.length : Int)
        ·rw [if_pos c8] at H
         have c8b0 : decide (x14_1 < (l1.length : Int)) = true := decide_eq_true c8
         clear c8
         by_cases c9 : (rd l0 x14_1) = (rd l1 x14_1)
         ·rw [if_pos c9] at H
          have c9b0 : ((rd l0 x14_1) == (rd l1 x14_1)) = true := beq_iff_eq.mpr c9
          have c9b1 : ((rd l0 x14_1) != (rd l1 x14_1)) = false := bne_eq_false_iff_eq.mpr c9
          clear c9
          have H' := Aside0.mk H
          clear H
          have p503 : 0 ≤ (x14_1 : Int) := dt_
          have q503 : x14_1 < (l0.length : Int) := dt_
          obtain ⟨ad503, e503, hx503_0⟩ := Kd.at_int HR0.out x14_1 p503 q503
          cases e503
          replace p503 := eq_true p503
          replace q503 := eq_true q503
          have p504 : 0 ≤ (x14_1 : Int) := dt_
          have q504 : x14_1 < (l1.length : Int) := dt_
          obtain ⟨ad504, e504, hx504_0⟩ := Kd.at_int HR1.out x14_1 p504 q504
          cases e504
          replace p504 := eq_true p504
          replace q504 := eq_true q504
          go_wp2
          go_roundg k1
          case measure => have := HK1.out; omega
          case rel => exact ⟨_, (by first | rfl | (simp; done) | (simp [*]; done)), H', ⟨by have := HK1.out; omega⟩, by repeat (first | exact Drawn0.refl _ | apply Drawn0.step)⟩
         ·rw [if_neg c9] at H
          have c9b0 : ((rd l0 x14_1) == (rd l1 x14_1)) = false := beq_eq_false_iff_ne.mpr c9
          have c9b1 : ((rd l0 x14_1) != (rd l1 x14_1)) = true := bne_iff_ne.mpr c9
          obtain rfl := Option.some.inj H
          have p503 : 0 ≤ (x14_1 : Int) := dt_
          have q503 : x14_1 < (l0.length : Int) := dt_
          obtain ⟨ad503, e503, hx503_0⟩ := Kd.at_int HR0.out x14_1 p503 q503
          cases e503
          replace p503 := eq_true p503
          replace q503 := eq_true q503
          have p504 : 0 ≤ (x14_1 : Int) := dt_
          have q504 : x14_1 < (l1.length : Int) := dt_
          obtain ⟨ad504, e504, hx504_0⟩ := Kd.at_int HR1.out x14_1 p504 q504
          cases e504
          replace p504 := eq_true p504
          replace q504 := eq_true q504
          go_wp2
          go_ret
          exact ⟨by first | rfl | (simp; done) | (simp [*]; done), by repeat (first | exact Drawn0.refl _ | apply Drawn0.step)⟩
        ·rw [if_neg c8] at H
         exact absurd H (by simp)
      ·rw [if_neg c6] at H
       exact absurd H (by simp)
     ·rw [if_neg c5] at H
      exact absurd H (by simp)
    ·rw [if_neg c4] at H
     have c4b0 : decide (x14_1 < (l0.length : Int)) = false := decide_eq_false c4
     clear c4
     obtain rfl := Option.some.inj H
     go_wp2
     go_ret
     exact ⟨by first | rfl | (simp; done) | (simp [*]; done), by repeat (first | exact Drawn0.refl _ | apply Drawn0.step)⟩
end Go.Proofs.Ytdedmhmomoejkaa.X
namespace Go.Proofs.Ytdedmhmomoejkaa.X
open Go.RowKit Go.Proofs.YtdedmhmomoejkaaW.PrintWords Go.Proofs.YtdedmhmomoejkaaW.PrintLast Go.Proofs.YtdedmhmomoejkaaW.PrintMore
attribute [local go_sem] max2_int max_two
set_option linter.unusedVariables false
set_option linter.unusedSimpArgs false
def glob_find.l0 : Nat → List Int → List Int → Int → Option (Int)
 | 0, _, _, _ => none
 | k + 1, x0, x1, x5 => if (wrap64 (x5 + (x0.length : Int))) ≤ (x1.length : Int) then (if 0 ≤ x5 then (if x5 ≤ (x1.length : Int) then ((glob_at.f k x0 (x1.drop (x5 : Int).toNat)).bind fun t506 => (if t506 = true then (some x5) else (glob_find.l0 k x0 x1 (wrap64 (x5 + 1))))) else (none)) else (none)) else (some (-1))
def glob_find.f (k : Nat) (l0 : List Int) (l1 : List Int) : Option (Int) := glob_find.l0 k l0 l1 0
theorem glob_find.mono_l : ∀ k, (∀ y0 y1 y2, LeO (glob_find.l0 k y0 y1 y2) (glob_find.l0 (k + 1) y0 y1 y2))
 | 0 => fun _ _ _ r h => by simp [glob_find.l0] at h
 | k + 1 => by
  have ih0 := glob_find.mono_l k
  ·intro y0 y1 y2
   unfold glob_find.l0
   repeat' first
   | (with_reducible exact ih0 _ _ _)
   | (with_reducible exact glob_at.mono _ _ _)
   | (with_reducible exact LeO.refl _)
   | (with_reducible exact LeO.none _)
   | (with_reducible refine LeO.ite ?_ ?_)
   | (with_reducible refine LeO.bind ?_ (fun _ => ?_))
   | exact ih0 _ _ _
   | exact glob_at.mono _ _ _
   | exact LeO.none _
   | refine LeO.ite ?_ ?_
   | refine LeO.bind ?_ (fun _ => ?_)
theorem glob_find.mono : ∀ a0 a1 k, LeO (glob_find.f k a0 a1) (glob_find.f (k + 1) a0 a1) := by
 intro a0 a1 k
 have ih0 := glob_find.mono_l k
 unfold glob_find.f
 repeat' first
   | (with_reducible exact ih0 _ _ _)
   | (with_reducible exact glob_at.mono _ _ _)
   | (with_reducible exact LeO.refl _)
   | (with_reducible exact LeO.none _)
   | (with_reducible refine LeO.ite ?_ ?_)
   | (with_reducible refine LeO.bind ?_ (fun _ => ?_))
   | exact ih0 _ _ _
   | exact glob_at.mono _ _ _
   | exact LeO.none _
   | refine LeO.ite ?_ ?_
   | refine LeO.bind ?_ (fun _ => ?_)
set_option maxHeartbeats 8000000 in
set_option maxRecDepth 100000 in
theorem glob_find.calls (k : Nat) (A0 : Option Addr) (c0 : Nat) (l0 : List Int) (A1 : Option Addr) (c1 : Nat) (l1 : List Int) (r : Int) (w : World) (hr0 : Kd.C (Kd.int .i32) w A0 l0.length l0) (hc0 : l0.length ≤ c0) (hr1 : Kd.C (Kd.int .i32) w A1 l1.length l1) (hc1 : l1.length ≤ c1) (h : glob_find.f k l0 l1 = some r) :
  Calls Try.prog 103 #[.slice A0 l0.length c0, .slice A1 l1.length c1] w fun e w' => e = .returned (.int .i64 r) ∧ Drawn0 w w' := by
 have HR0 := Aside0.mk hr0
 have HC0 := Aside0.mk hc0
 clear hr0 hc0
 have HR1 := Aside0.mk hr1
 have HC1 := Aside0.mk hc1
 clear hr1 hc1
 have H : (glob_find.l0 k l0 l1 0) = some r := h
 clear h
 have H' := Aside0.mk H
 clear H
 go_enter Try.func103, Try.ntmps103
 go_wp2
 go_loopg [5] k (fun kq v5 w' => ∃ (x5_1 : Int), v5 = .int .i64 x5_1 ∧ Aside0 (glob_find.l0 kq l0 l1 x5_1 = some r) ∧ Aside0 (kq ≤ k) ∧ Drawn0 w w')
 case atStart => exact ⟨_, (by first | rfl | (simp; done) | (simp [*]; done)), H', ⟨Nat.le_refl _⟩, by repeat (first | exact Drawn0.refl _ | apply Drawn0.step)⟩
 case round =>
  clear H'
  try clear c1
  try clear p2
  obtain ⟨x5_1, rfl, HA, HK1, ⟨m1, rfl⟩⟩ := hrel
  cases gk with
  | zero => exact absurd HA.out (by simp [glob_find.l0])
  | succ k1 =>
   have H := HA.out
   clear HA
   simp only [glob_find.l0] at H
   by_cases c3 : (wrap64 (x5_1 + (l0.length : Int))) ≤ (l1.length : Int)
   ·rw [if_pos c3] at H
    have c3b0 : decide ((wrap64 (x5_1 + (l0.length : Int))) ≤ (l1.length : Int)) = true := decide_eq_true c3
    clear c3
    by_cases c4 : 0 ≤ x5_1
    ·rw [if_pos c4] at H
     have c4b0 := eq_true c4
     have c4b1 : decide (0 ≤ x5_1) = true := decide_eq_true c4
     clear c4
     by_cases c5 : x5_1 ≤ (l1.length : Int)
     ·rw [if_pos c5] at H
      have c5b0 := eq_true c5
      have c5b1 : decide (x5_1 ≤ (l1.length : Int)) = true := decide_eq_true c5
      clear c5
      replace H := Option.bind_eq_some_iff.mp H
      obtain ⟨t506, A60, H⟩ := H
      replace H : (if t506 = true then (some x5_1) else (glob_find.l0 k1 l0 l1 (wrap64 (x5_1 + 1)))) = some r := H
      have A6 := Aside0.mk A60
      clear A60
      by_cases c7 : t506 = true
      ·subst c7
       have H1 : (some x5_1) = some r := by rw [if_pos rfl] at H; exact H
       clear H
       have H := H1
       clear H1
       obtain rfl := Option.some.inj H
       obtain ⟨i08, hi08, _, hsz8, _⟩ := info_parts info21
       obtain ⟨A8, hcut8, hA8, hC8⟩ := print_drop_of (P := Try.prog) (Value.int .i32) 0 93 21 .i64 Try.underlying93 hi08 hsz8 A1 c1 l1 x5_1 (dt_) (dt_) HC1.out
       have HR505 := Aside0.mk (Kd.C_of_reads (h1 := fun _ => rfl) (hA8 _ (Kd.reads_of_C HR1.out)))
       have HC505 := Aside0.mk hC8
       clear hA8 hC8 hi08 hsz8
       go_wp2_with (first | ((with_reducible refine gate_callee (f := 102) rfl ?_); refine goesL_ (some 19) rfl rfl Try.func102 (by kernel_rfl) rfl #[.slice A0 l0.length c0, .slice A8 (l1.drop (x5_1 : Int).toNat).length (c1 - x5_1.toNat)] rfl (by (try simp only [List.map_toArray, List.map_cons, List.map_nil]); first | done | (rw [show (l1.drop (x5_1 : Int).toNat).length = (l1.length - x5_1.toNat) from List.length_drop] <;> rfl) | rfl | (simp only [List.length_drop, List.length_take]; rfl)) ?_; (with_reducible refine (glob_at.calls k1 _ _ l0 _ _ (l1.drop (x5_1 : Int).toNat) true _ ?side1 ?side2 ?side3 ?side4 A6.out).mono ?_); (case side1 => repeat (first | exact HR0.out | (with_reducible refine Kd.C_alloc ?_ _) | (with_reducible refine Kd.C_drewN ?_ _) | (with_reducible refine Kd.C_drew ?_))); (case side2 => exact HC0.out); (case side3 => repeat (first | exact HR505.out | (with_reducible refine Kd.C_alloc ?_ _) | (with_reducible refine Kd.C_drewN ?_ _) | (with_reducible refine Kd.C_drew ?_))); (case side4 => exact HC505.out); rintro e w' ⟨rfl, ⟨nd, rfl⟩⟩; refine ⟨_, rfl, ?_⟩))
       go_ret
       exact ⟨by first | rfl | (simp; done) | (simp [*]; done), by repeat (first | exact Drawn0.refl _ | apply Drawn0.step)⟩
      ·replace c7 := Bool.eq_false_iff.mpr c7
       subst c7
       have H1 : (glob_find.l0 k1 l0 l1 (wrap64 (x5_1 + 1))) = some r := by rw [if_neg (show ¬ (false = true) by decide)] at H; exact H
       clear H
       have H := H1
       clear H1
       have H' := Aside0.mk H
       clear H
       obtain ⟨i09, hi09, _, hsz9, _⟩ := info_parts info21
       obtain ⟨A9, hcut9, hA9, hC9⟩ := print_drop_of (P := Try.prog) (Value.int .i32) 0 93 21 .i64 Try.underlying93 hi09 hsz9 A1 c1 l1 x5_1 (dt_) (dt_) HC1.out
       have HR505 := Aside0.mk (Kd.C_of_reads (h1 := fun _ => rfl) (hA9 _ (Kd.reads_of_C HR1.out)))
       have HC505 := Aside0.mk hC9
       clear hA9 hC9 hi09 hsz9
       go_wp2_with (first | ((with_reducible refine gate_callee (f := 102) rfl ?_); refine goesL_ (some 19) rfl rfl Try.func102 (by kernel_rfl) rfl #[.slice A0 l0.length c0, .slice A9 (l1.drop (x5_1 : Int).toNat).length (c1 - x5_1.toNat)] rfl (by (try simp only [List.map_toArray, List.map_cons, List.map_nil]); first | done | (rw [show (l1.drop (x5_1 : Int).toNat).length = (l1.length - x5_1.toNat) from List.length_drop] <;> rfl) | rfl | (simp only [List.length_drop, List.length_take]; rfl)) ?_; (with_reducible refine (glob_at.calls k1 _ _ l0 _ _ (l1.drop (x5_1 : Int).toNat) false _ ?side1 ?side2 ?side3 ?side4 A6.out).mono ?_); (case side1 => repeat (first | exact HR0.out | (with_reducible refine Kd.C_alloc ?_ _) | (with_reducible refine Kd.C_drewN ?_ _) | (with_reducible refine Kd.C_drew ?_))); (case side2 => exact HC0.out); (case side3 => repeat (first | exact HR505.out | (with_reducible refine Kd.C_alloc ?_ _) | (with_reducible refine Kd.C_drewN ?_ _) | (with_reducible refine Kd.C_drew ?_))); (case side4 => exact HC505.out); rintro e w' ⟨rfl, ⟨nd, rfl⟩⟩; refine ⟨_, rfl, ?_⟩))
       go_roundg k1
       case measure => have := HK1.out; omega
       case rel => exact ⟨_, (by first | rfl | (simp; done) | (simp [*]; done)), H', ⟨by have := HK1.out; omega⟩, by repeat (first | exact Drawn0.refl _ | apply Drawn0.step)⟩
     ·rw [if_neg c5] at H
      exact absurd H (by simp)
    ·rw [if_neg c4] at H
     exact absurd H (by simp)
   ·rw [if_neg c3] at H
    have c3b0 : decide ((wrap64 (x5_1 + (l0.length : Int))) ≤ (l1.length : Int)) = false := decide_eq_false c3
    clear c3
    obtain rfl := Option.some.inj H
    go_wp2
    go_ret
    exact ⟨by first | rfl | (simp; done) | (simp [*]; done), by repeat (first | exact Drawn0.refl _ | apply Drawn0.step)⟩
end Go.Proofs.Ytdedmhmomoejkaa.X
namespace Go.Proofs.Ytdedmhmomoejkaa.X
open Go.RowKit Go.Proofs.YtdedmhmomoejkaaW.PrintWords Go.Proofs.YtdedmhmomoejkaaW.PrintLast
set_option linter.unusedVariables false
set_option linter.unusedSimpArgs false
def atB : List Int → List Int → Bool
  | [], _ => true
  | _ :: _, [] => false
  | c :: p, d :: s => (c == 95 || c == d) && atB p s
def findI (p : List Int) : List Int → Int
  | [] => if atB p [] = true then 0 else -1
  | d :: s => if atB p (d :: s) = true then 0 else if findI p s < 0 then -1 else findI p s + 1
theorem atB_short : ∀ (p s : List Int), s.length < p.length → atB p s = false
  | [], s, h => by simp at h
  | c :: p, [], _ => rfl
  | c :: p, d :: s, h => by rw [atB, atB_short p s (by simpa using h), Bool.and_false]
theorem findI_short (p : List Int) : ∀ (s : List Int), s.length < p.length → findI p s = -1
  | [], h => by rw [findI, atB_short p [] h]; rfl
  | d :: s, h => by
    have h' : s.length < p.length := by simp at h; omega
    rw [findI, atB_short p (d :: s) h, findI_short p s h']
    rfl
theorem findI_bound (p : List Int) : ∀ (s : List Int), findI p s = -1 ∨ 0 ≤ findI p s ∧ findI p s + p.length ≤ s.length
  | [] => by
    by_cases h : p.length = 0
    · rw [findI]; split <;> simp [h]
    · exact .inl (findI_short p [] (by simp; omega))
  | d :: s => by
    rw [findI]
    by_cases h : atB p (d :: s) = true
    · rw [if_pos h]
      refine .inr ⟨Int.le_refl _, ?_⟩
      by_cases hl : (d :: s).length < p.length
      · rw [atB_short p _ hl] at h; cases h
      · omega
    · rw [if_neg h]
      rcases findI_bound p s with h1 | h1
      · rw [if_pos (by omega)]; exact .inl rfl
      · rw [if_neg (by omega)]
        refine .inr ⟨by omega, by simp; omega⟩
theorem rd_get (l : List Int) (i : Nat) (h : i < l.length) : rd l (i : Int) = l[i] := by
  simp only [rd, Int.toNat_natCast, List.getD_eq_getElem?_getD, List.getElem?_eq_getElem h, Option.getD_some]
theorem at_tot (p s : List Int) (hp : p.length ≤ 9223372036854775806) : TotP (fun r => r = atB p s) (fun k => glob_at.f k p s) := by
  unfold glob_at.f
  refine TotP.ite (fun h => TotP.some_ (atB_short p s (by omega)).symm) (fun h => ?_)
  have key : ∀ (n i : Nat), i + n = p.length → TotP (fun r => r = atB (p.drop i) (s.drop i)) (fun k => glob_at.l0 k s p (p.length : Int) (i : Int)) := by
    intro n
    induction n with
    | zero =>
      intro i hi
      refine TotP.succ (fun k => by simp only [glob_at.l0]; rfl) ?_
      refine TotP.ite (fun h' => absurd h' (by omega)) (fun _ => TotP.some_ ?_)
      rw [List.drop_of_length_le (by omega)]; simp [atB]
    | succ n ih =>
      intro i hi
      have e1 := List.drop_eq_getElem_cons (show i < p.length by omega)
      have e2 := List.drop_eq_getElem_cons (show i < s.length by omega)
      refine TotP.succ (fun k => by simp only [glob_at.l0]; rfl) ?_
      refine TotP.ite (fun _ => ?_) (fun h' => absurd (by omega) h')
      refine TotP.ite (fun _ => ?_) (fun h' => absurd (by omega) h')
      refine TotP.ite (fun _ => ?_) (fun h' => absurd (by omega) h')
      rw [rd_get p i (by omega)]
      have hw : wrap64 ((i : Int) + 1) = ((i + 1 : Nat) : Int) := by rw [wrap_in (by omega) (by omega)]; omega
      rw [hw]
      refine TotP.ite (fun g => ?_) (fun g => ?_)
      · refine (ih (i + 1) (by omega)).weak (fun r hr => ?_)
        rw [hr, e1, e2, atB, beq_iff_eq.2 g]; simp
      · refine TotP.ite (fun _ => ?_) (fun h' => absurd (by omega) h')
        rw [rd_get s i (by omega)]
        refine TotP.ite (fun g2 => ?_) (fun g2 => TotP.some_ ?_)
        · refine (ih (i + 1) (by omega)).weak (fun r hr => ?_)
          rw [hr, e1, e2, atB, beq_iff_eq.2 g2]; simp
        · rw [e1, e2, atB, beq_eq_false_iff_ne.2 g, beq_eq_false_iff_ne.2 g2]; simp
  simpa using key p.length 0 (by omega)
theorem find_tot (p s : List Int) (hp : p.length + s.length ≤ 9223372036854775000) : TotP (fun r => r = findI p s) (fun k => glob_find.f k p s) := by
  unfold glob_find.f
  have nil_at : p.length = 0 → ∀ l, atB p l = true := by
    intro h l
    cases p with
    | nil => cases l <;> rfl
    | cons a b => simp at h
  have key : ∀ (n i : Nat), i + n = s.length → TotP (fun r => r = if findI p (s.drop i) < 0 then -1 else findI p (s.drop i) + i) (fun k => glob_find.l0 k p s (i : Int)) := by
    intro n
    induction n with
    | zero =>
      intro i hi
      refine TotP.succ (fun k => by simp only [glob_find.l0]; rfl) ?_
      have hw : wrap64 ((i : Int) + (p.length : Int)) = (i : Int) + (p.length : Int) := wrap_in (by omega) (by omega)
      rw [hw]
      have e0 : s.drop i = [] := List.drop_of_length_le (by omega)
      refine TotP.ite (fun hle => ?_) (fun hle => TotP.some_ ?_)
      · refine TotP.ite (fun _ => ?_) (fun h' => absurd (by omega) h')
        refine TotP.ite (fun _ => ?_) (fun h' => absurd (by omega) h')
        rw [Int.toNat_natCast]
        refine TotP.bind (at_tot p (s.drop i) (by omega)) (fun b hb => ?_)
        subst hb
        refine TotP.ite (fun g => TotP.some_ ?_) (fun g => absurd (nil_at (by omega) _) g)
        rw [e0] at g ⊢
        rw [findI, if_pos g]; simp
      · rw [findI_short p (s.drop i) (by simp; omega)]; rfl
    | succ n ih =>
      intro i hi
      refine TotP.succ (fun k => by simp only [glob_find.l0]; rfl) ?_
      have hw : wrap64 ((i : Int) + (p.length : Int)) = (i : Int) + (p.length : Int) := wrap_in (by omega) (by omega)
      have hw1 : wrap64 ((i : Int) + 1) = ((i + 1 : Nat) : Int) := by rw [wrap_in (by omega) (by omega)]; omega
      rw [hw, hw1]
      have e2 := List.drop_eq_getElem_cons (show i < s.length by omega)
      refine TotP.ite (fun hle => ?_) (fun hle => TotP.some_ ?_)
      · refine TotP.ite (fun _ => ?_) (fun h' => absurd (by omega) h')
        refine TotP.ite (fun _ => ?_) (fun h' => absurd (by omega) h')
        rw [Int.toNat_natCast]
        refine TotP.bind (at_tot p (s.drop i) (by omega)) (fun b hb => ?_)
        subst hb
        refine TotP.ite (fun g => TotP.some_ ?_) (fun g => ?_)
        · rw [e2] at g ⊢
          rw [findI, if_pos g]; simp
        · refine (ih (i + 1) (by omega)).weak (fun r hr => ?_)
          rw [hr, e2]
          rw [e2] at g
          rw [findI, if_neg g]
          rcases findI_bound p (s.drop (i + 1)) with h1 | h1
          · rw [h1]; rfl
          · rw [if_neg (by omega), if_neg (by omega), if_neg (by omega)]
            omega
      · rw [findI_short p (s.drop i) (by simp; omega)]; rfl
  refine (key s.length 0 (by omega)).weak (fun r hr => ?_)
  rw [hr]
  rcases findI_bound p s with h1 | h1
  · simp [h1]
  · rw [List.drop_zero, if_neg (by omega)]; simp
end Go.Proofs.Ytdedmhmomoejkaa.X
namespace Go.Proofs.Ytdedmhmomoejkaa.X
open Go.RowKit Go.Proofs.YtdedmhmomoejkaaW.PrintWords Go.Proofs.YtdedmhmomoejkaaW.PrintLast Go.Proofs.YtdedmhmomoejkaaW.PrintMore
attribute [local go_sem] max2_int max_two
set_option linter.unusedVariables false
set_option linter.unusedSimpArgs false
def slices_Index_rune_rune.l0 : Nat → List Int → Int → Int → Int → Option (Int)
 | 0, _, _, _, _ => none
 | k + 1, x0, x1, x7, x8 => if x8 < x7 then (if 0 ≤ x8 then (if x8 < (x0.length : Int) then (if x1 = (rd x0 x8) then (some x8) else (slices_Index_rune_rune.l0 k x0 x1 x7 (wrap64 (x8 + 1)))) else (none)) else (none)) else (some (-1))
def slices_Index_rune_rune.f (k : Nat) (l0 : List Int) (a1 : Int) : Option (Int) := slices_Index_rune_rune.l0 k l0 a1 (l0.length : Int) 0
theorem slices_Index_rune_rune.mono_l : ∀ k, (∀ y0 y1 y2 y3, LeO (slices_Index_rune_rune.l0 k y0 y1 y2 y3) (slices_Index_rune_rune.l0 (k + 1) y0 y1 y2 y3))
 | 0 => fun _ _ _ _ r h => by simp [slices_Index_rune_rune.l0] at h
 | k + 1 => by
  have ih0 := slices_Index_rune_rune.mono_l k
  ·intro y0 y1 y2 y3
   unfold slices_Index_rune_rune.l0
   repeat' first
   | (with_reducible exact ih0 _ _ _ _)
   | (with_reducible exact LeO.refl _)
   | (with_reducible exact LeO.none _)
   | (with_reducible refine LeO.ite ?_ ?_)
   | (with_reducible refine LeO.bind ?_ (fun _ => ?_))
   | exact ih0 _ _ _ _
   | exact LeO.none _
   | refine LeO.ite ?_ ?_
   | refine LeO.bind ?_ (fun _ => ?_)
theorem slices_Index_rune_rune.mono : ∀ a0 a1 k, LeO (slices_Index_rune_rune.f k a0 a1) (slices_Index_rune_rune.f (k + 1) a0 a1) := by
 intro a0 a1 k
 have ih0 := slices_Index_rune_rune.mono_l k
 unfold slices_Index_rune_rune.f
 repeat' first
   | (with_reducible exact ih0 _ _ _ _)
   | (with_reducible exact LeO.refl _)
   | (with_reducible exact LeO.none _)
   | (with_reducible refine LeO.ite ?_ ?_)
   | (with_reducible refine LeO.bind ?_ (fun _ => ?_))
   | exact ih0 _ _ _ _
   | exact LeO.none _
   | refine LeO.ite ?_ ?_
   | refine LeO.bind ?_ (fun _ => ?_)
set_option maxHeartbeats 8000000 in
set_option maxRecDepth 100000 in
theorem slices_Index_rune_rune.calls (k : Nat) (A0 : Option Addr) (c0 : Nat) (l0 : List Int) (a1 : Int) (r : Int) (w : World) (hr0 : Kd.C (Kd.int .i32) w A0 l0.length l0) (hc0 : l0.length ≤ c0) (h : slices_Index_rune_rune.f k l0 a1 = some r) :
  Calls Try.prog 108 #[.slice A0 l0.length c0, .int .i32 a1] w fun e w' => e = .returned (.int .i64 r) ∧ Drawn0 w w' := by
 have HR0 := Aside0.mk hr0
 have HC0 := Aside0.mk hc0
 clear hr0 hc0
 have H : (slices_Index_rune_rune.l0 k l0 a1 (l0.length : Int) 0) = some r := h
 clear h
 have H' := Aside0.mk H
 clear H
 go_enter Try.func108, Try.ntmps108
 go_wp2
 go_loopg [8] k (fun kq v8 w' => ∃ (x8_1 : Int), v8 = .int .i64 x8_1 ∧ Aside0 (slices_Index_rune_rune.l0 kq l0 a1 (l0.length : Int) x8_1 = some r) ∧ Aside0 (kq ≤ k) ∧ Drawn0 w w')
 case atStart => exact ⟨_, (by first | rfl | (simp; done) | (simp [*]; done)), H', ⟨Nat.le_refl _⟩, by repeat (first | exact Drawn0.refl _ | apply Drawn0.step)⟩
 case round =>
  clear H'
  try clear c1
  try clear p2
  obtain ⟨x8_1, rfl, HA, HK1, ⟨m1, rfl⟩⟩ := hrel
  cases gk with
  | zero => exact absurd HA.out (by simp [slices_Index_rune_rune.l0])
  | succ k1 =>
   have H := HA.out
   clear HA
   simp only [slices_Index_rune_rune.l0] at H
   by_cases c3 : x8_1 < (l0.length : Int)
   ·rw [if_pos c3] at H
    have c3b0 : decide (x8_1 < (l0.length : Int)) = true := decide_eq_true c3
    clear c3
    by_cases c4 : 0 ≤ x8_1
    ·rw [if_pos c4] at H
     have c4b0 : decide (0 ≤ x8_1) = true := decide_eq_true c4
     clear c4
     by_cases c5 : x8_1 < (l0.length : Int)
     ·rw [if_pos c5] at H
      have c5b0 : decide (x8_1 < (l0.length : Int)) = true := decide_eq_true c5
      clear c5
      by_cases c6 : a1 = (rd l0 x8_1)
      ·rw [if_pos c6] at H
       have c6b0 : (a1 == (rd l0 x8_1)) = true := beq_iff_eq.mpr c6
       have c6b1 : (a1 != (rd l0 x8_1)) = false := bne_eq_false_iff_eq.mpr c6
       clear c6
       obtain rfl := Option.some.inj H
       have p485 : 0 ≤ (x8_1 : Int) := dt_
       have q485 : x8_1 < (l0.length : Int) := dt_
       obtain ⟨ad485, e485, hx485_0⟩ := Kd.at_int HR0.out x8_1 p485 q485
       cases e485
       replace p485 := eq_true p485
       replace q485 := eq_true q485
       go_wp2
       go_ret
       exact ⟨by first | rfl | (simp; done) | (simp [*]; done), by repeat (first | exact Drawn0.refl _ | apply Drawn0.step)⟩
      ·rw [if_neg c6] at H
       have c6b0 : (a1 == (rd l0 x8_1)) = false := beq_eq_false_iff_ne.mpr c6
       have c6b1 : (a1 != (rd l0 x8_1)) = true := bne_iff_ne.mpr c6
       have H' := Aside0.mk H
       clear H
       have p485 : 0 ≤ (x8_1 : Int) := dt_
       have q485 : x8_1 < (l0.length : Int) := dt_
       obtain ⟨ad485, e485, hx485_0⟩ := Kd.at_int HR0.out x8_1 p485 q485
       cases e485
       replace p485 := eq_true p485
       replace q485 := eq_true q485
       go_wp2
       go_roundg k1
       case measure => have := HK1.out; omega
       case rel => exact ⟨_, (by first | rfl | (simp; done) | (simp [*]; done)), H', ⟨by have := HK1.out; omega⟩, by repeat (first | exact Drawn0.refl _ | apply Drawn0.step)⟩
     ·rw [if_neg c5] at H
      exact absurd H (by simp)
    ·rw [if_neg c4] at H
     exact absurd H (by simp)
   ·rw [if_neg c3] at H
    have c3b0 : decide (x8_1 < (l0.length : Int)) = false := decide_eq_false c3
    clear c3
    obtain rfl := Option.some.inj H
    go_wp2
    go_ret
    exact ⟨by first | rfl | (simp; done) | (simp [*]; done), by repeat (first | exact Drawn0.refl _ | apply Drawn0.step)⟩
end Go.Proofs.Ytdedmhmomoejkaa.X
namespace Go.Proofs.Ytdedmhmomoejkaa.X
open Go.RowKit Go.Proofs.YtdedmhmomoejkaaW.PrintWords Go.Proofs.YtdedmhmomoejkaaW.PrintLast
set_option linter.unusedVariables false
set_option linter.unusedSimpArgs false
def idxI (a : Int) : List Int → Int
  | [] => -1
  | c :: r => if a = c then 0 else if idxI a r < 0 then -1 else idxI a r + 1
theorem idxI_bound (a : Int) : ∀ (s : List Int), idxI a s = -1 ∨ 0 ≤ idxI a s ∧ idxI a s < s.length
  | [] => .inl rfl
  | c :: r => by
    rw [idxI]
    by_cases h : a = c
    · rw [if_pos h]; exact .inr ⟨Int.le_refl _, by simp only [List.length_cons]; omega⟩
    · rw [if_neg h]
      rcases idxI_bound a r with h1 | h1
      · rw [h1]; exact .inl rfl
      · rw [if_neg (by omega)]; exact .inr ⟨by omega, by simp; omega⟩
theorem index_tot (s : List Int) (a : Int) (hp : s.length ≤ 9223372036854775806) : TotP (fun r => r = idxI a s) (fun k => slices_Index_rune_rune.f k s a) := by
  unfold slices_Index_rune_rune.f
  have key : ∀ (n i : Nat), i + n = s.length → TotP (fun r => r = if idxI a (s.drop i) < 0 then -1 else idxI a (s.drop i) + i) (fun k => slices_Index_rune_rune.l0 k s a (s.length : Int) (i : Int)) := by
    intro n
    induction n with
    | zero =>
      intro i hi
      refine TotP.succ (fun k => by simp only [slices_Index_rune_rune.l0]; rfl) ?_
      refine TotP.ite (fun h' => absurd h' (by omega)) (fun _ => TotP.some_ ?_)
      rw [List.drop_of_length_le (by omega)]; rfl
    | succ n ih =>
      intro i hi
      have e2 := List.drop_eq_getElem_cons (show i < s.length by omega)
      refine TotP.succ (fun k => by simp only [slices_Index_rune_rune.l0]; rfl) ?_
      refine TotP.ite (fun _ => ?_) (fun h' => absurd (by omega) h')
      refine TotP.ite (fun _ => ?_) (fun h' => absurd (by omega) h')
      refine TotP.ite (fun _ => ?_) (fun h' => absurd (by omega) h')
      rw [rd_get s i (by omega)]
      have hw : wrap64 ((i : Int) + 1) = ((i + 1 : Nat) : Int) := by rw [wrap_in (by omega) (by omega)]; omega
      rw [hw]
      refine TotP.ite (fun g => TotP.some_ ?_) (fun g => ?_)
      · rw [e2, idxI, if_pos g]; simp
      · refine (ih (i + 1) (by omega)).weak (fun r hr => ?_)
        rw [hr, e2, idxI, if_neg g]
        rcases idxI_bound a (s.drop (i + 1)) with h1 | h1
        · rw [h1]; rfl
        · rw [if_neg (by omega), if_neg (by omega), if_neg (by omega)]
          omega
  refine (key s.length 0 (by omega)).weak (fun r hr => ?_)
  rw [hr]
  rcases idxI_bound a s with h1 | h1
  · simp [h1]
  · rw [List.drop_zero, if_neg (by omega)]; simp
def splitL : List Int → List (List Int)
  | [] => [[]]
  | c :: r => if 37 = c then [] :: splitL r else match splitL r with
    | [] => [[c]]
    | h :: t => (c :: h) :: t
theorem split_ne : ∀ (s : List Int), splitL s ≠ []
  | [] => by simp [splitL]
  | c :: r => by
    rw [splitL]
    split
    · simp
    · cases splitL r <;> simp
theorem split_none : ∀ (s : List Int), idxI 37 s < 0 → splitL s = [s]
  | [], _ => rfl
  | c :: r, h => by
    rw [idxI] at h
    rw [splitL]
    by_cases e : 37 = c
    · rw [if_pos e] at h; omega
    · rw [if_neg e] at h ⊢
      rcases idxI_bound 37 r with h1 | h1
      · rw [split_none r (by omega)]
      · rw [if_neg (by omega)] at h; omega
theorem split_some : ∀ (s : List Int), 0 ≤ idxI 37 s → splitL s = s.take (idxI 37 s).toNat :: splitL (s.drop ((idxI 37 s).toNat + 1))
  | [], h => by simp [idxI] at h
  | c :: r, h => by
    rw [idxI] at h ⊢
    by_cases e : 37 = c
    · rw [splitL, if_pos e, if_pos e]; rfl
    · rw [if_neg e] at h ⊢
      rcases idxI_bound 37 r with h1 | h1
      · rw [h1] at h; simp at h
      · rw [if_neg (by omega)]
        have e1 : (idxI 37 r + 1).toNat = (idxI 37 r).toNat + 1 := by omega
        rw [e1, splitL, if_neg e, split_some r h1.1]
        rfl
end Go.Proofs.Ytdedmhmomoejkaa.X
namespace Go.Proofs.Ytdedmhmomoejkaa.X
open Go.RowKit Go.Proofs.YtdedmhmomoejkaaW.PrintWords Go.Proofs.YtdedmhmomoejkaaW.PrintLast Go.Proofs.YtdedmhmomoejkaaW.PrintMore
set_option linter.unusedVariables false
set_option linter.unusedSimpArgs false
def PartsCalls (pat : ByteArray) (l : List (List Int)) : Prop := ∀ (A0 : Option Addr) (c0 : Nat) (w : World), Kd.V (Kd.int .i32) 21 w w.heap.size (fun _ => True) (.slice A0 (foldR pat).length c0) (foldR pat) →
  Calls Try.prog 100 #[.slice A0 (foldR pat).length c0] w fun e w' => ∃ v0_ : Value, e = .returned (v0_) ∧ Kd.N (Kd.slice 21 (Kd.int .i32)) 93 w' w.heap.size (fun k_ => (True ∨ w.heap.size ≤ k_)) v0_ l ∧ Below w.heap.size w w'
def midL : List (List Int) → List Int → Bool
  | [], _ => true
  | p :: r, t => if findI p t < 0 then false else midL r (t.drop (findI p t + p.length).toNat)
def matchL (l : List (List Int)) (t : List Int) : Bool :=
  if l.length = 1 then ((rd_L10 l 0).length == t.length && atB (rd_L10 l 0) t)
  else if t.length < (rd_L10 l 0).length + (rd_L10 l (l.length - 1)).length then false
  else if atB (rd_L10 l 0) t = false then false
  else if atB (rd_L10 l (l.length - 1)) (t.drop (t.length - (rd_L10 l (l.length - 1)).length)) = false then false
  else midL ((l.take (l.length - 1)).drop 1) ((t.take (t.length - (rd_L10 l (l.length - 1)).length)).drop (rd_L10 l 0).length)
theorem runes_len (s : ByteArray) : ∀ (f pos : Nat), (runesFrom s f pos).length ≤ f
  | 0, _ => Nat.le_refl _
  | f + 1, pos => by
    rw [runesFrom]
    split
    · have := runes_len s f (pos + (Utf8.decode s pos).2)
      simp only [List.length_cons]; omega
    · simp
theorem foldR_len (s : ByteArray) : (foldR s).length ≤ s.size := by
  rw [foldR, List.length_map]
  exact runes_len s s.size 0
theorem cut_then {K : Act → World → Prop} {Q : Exit → Act → World → Prop} {e : Exit} {a : Act} {E : World} (F : World → Prop) (hF : F E) (h : ∀ w1, F w1 → Exit.then K Q e a w1) : Exit.then K Q e a E := h E hF
set_option maxHeartbeats 8000000 in
set_option maxRecDepth 100000 in
theorem match81 (pat s : ByteArray) (hp : pat.size ≤ 4398046511104) (hs : s.size ≤ 4398046511104) (l : List (List Int)) (hl : 1 ≤ l.length) (hl2 : l.length ≤ 4398046511105) (hlp : ∀ i, (rd_L10 l i).length ≤ 9000000000000) (hmid : ∀ i, (rd_L10 ((l.take (l.length - 1)).drop 1) i).length ≤ 9000000000000) (hpar : PartsCalls pat l) (w : World) :
    Calls Try.prog 81 #[.string pat, .string s] w fun e w' => e = .returned (.bool (matchL l (foldR s))) ∧ Below w.heap.size w w' := by
  have PC := Aside0.mk hpar
  clear hpar
  have HP := Aside0.mk hp
  have FG := Aside0.mk (foldG s hs)
  have hls : (foldR s).length ≤ 9000000000000 := by have := foldR_len s; omega
  clear hp hs
  generalize foldR s = t at FG hls ⊢
  have HM : Aside0 (matchL l t = if l.length = 1 then ((rd_L10 l 0).length == t.length && atB (rd_L10 l 0) t)
    else if t.length < (rd_L10 l 0).length + (rd_L10 l ((l.length : Int) - 1)).length then false
    else if atB (rd_L10 l 0) t = false then false
    else if atB (rd_L10 l ((l.length : Int) - 1)) (t.drop (t.length - (rd_L10 l ((l.length : Int) - 1)).length)) = false then false
    else midL ((l.take (l.length - 1)).drop 1) ((t.take (t.length - (rd_L10 l ((l.length : Int) - 1)).length)).drop (rd_L10 l 0).length)) := ⟨rfl⟩
  generalize matchL l t = res at HM ⊢
  go_enter Try.func81, Try.ntmps81
  go_wp2_with fail
  refine (foldG pat HP.out w).mono ?_
  rintro e w1 ⟨v1, rfl, hR, hb⟩
  have HB1 := Aside0.mk hb
  have HR1 := Aside0.mk hR
  clear hR hb
  obtain ⟨A1, c1, rfl⟩ := Kd.R_slice HR1.out
  go_wp2_with fail
  refine (PC.out A1 c1 w1 (Kd.R_V HR1.out)).mono ?_
  rintro e w2 ⟨v2, rfl, hN, hb⟩
  have HB2 := Aside0.mk (below_step HB1.out hb)
  obtain ⟨A2, c2, rfl, hc2, hC2⟩ := Kd.N_reads hN
  have HC2 := Aside0.mk hc2
  have HL2 := Aside0.mk hC2
  clear hN hb hc2 hC2 HR1
  go_wp2_with fail
  refine (FG.out w2).mono ?_
  rintro e w3 ⟨v3, rfl, hR, hb⟩
  have HB3 := Aside0.mk (below_step HB2.out hb)
  have HL := Aside0.mk (Kd.C_below HL2.out hb)
  obtain ⟨A3, c3, rfl⟩ := Kd.R_slice hR
  obtain ⟨_, hc3, hC3⟩ := Kd.R_reads' hR
  have HC3 := Aside0.mk hc3
  have HT := Aside0.mk hC3
  clear hR hb hc3 hC3 HL2 HB1 HB2
  obtain ⟨ad, B0, d0, e, g0, k0, r0⟩ := at_L10 HL.out 0 (by omega) (by omega)
  cases e
  obtain ⟨ad', B1, d1, e, g1, k1, r1⟩ := at_L10 HL.out ((l.length : Int) - 1) (by omega) (by omega)
  cases e
  have z0 : (0 : Int) < (l.length : Int) := by omega
  have z1 : (0 : Int) ≤ (l.length : Int) - 1 := by omega
  have z2 : (l.length : Int) - 1 < (l.length : Int) := by omega
  simp only [show (0 : Int).toNat = 0 from rfl, Addr.add_zero'] at g0
  rw [show ((l.length : Int) - 1).toNat = l.length - 1 by omega] at g1
  go_wp2_with fail
  go_big_region
  refine cut_then (fun W => W = w3.drew) rfl ?_
  rintro w4 hw4
  have HB4 : Aside0 (Below w.heap.size w w4) := ⟨by rw [hw4]; exact below_drew1 HB3.out⟩
  have HL4 : Aside0 (Kd.C (Kd.slice 21 (Kd.int .i32)) w4 (some ad) l.length l) := ⟨by rw [hw4]; exact Kd.C_drew HL.out⟩
  have HT4 : Aside0 (Kd.C (Kd.int .i32) w4 A3 t.length t) := ⟨by rw [hw4]; exact Kd.C_drew HT.out⟩
  have HR0 : Aside0 (Kd.C (Kd.int .i32) w4 B0 (rd_L10 l 0).length (rd_L10 l 0)) := ⟨by rw [hw4]; exact Kd.C_drew r0⟩
  have HR1 : Aside0 (Kd.C (Kd.int .i32) w4 B1 (rd_L10 l ((l.length : Int) - 1)).length (rd_L10 l ((l.length : Int) - 1))) := ⟨by rw [hw4]; exact Kd.C_drew r1⟩
  have HK0 := Aside0.mk k0
  have HK1 := Aside0.mk k1
  clear hw4 g0 g1 k0 k1 r0 r1 HL HT HB3 z0 z1 z2
  have hp0 : (rd_L10 l 0).length ≤ 9000000000000 := hlp _
  have hq0 : (rd_L10 l ((l.length : Int) - 1)).length ≤ 9000000000000 := hlp _
  generalize rd_L10 l 0 = p at HR0 HK0 HM hp0 ⊢
  generalize rd_L10 l ((l.length : Int) - 1) = q at HR1 HK1 HM hq0 ⊢
  have AT0 : Aside0 (∀ W, Below w4.heap.size w4 W → Calls Try.prog 102 #[.slice B0 p.length d0, .slice A3 t.length c3] W fun e w' => e = .returned (.bool (atB p t)) ∧ Drawn0 W w') := ⟨fun W hW => by
    obtain ⟨r, ⟨kA, hA⟩, hr⟩ := at_tot p t (by omega)
    subst hr
    exact glob_at.calls kA B0 d0 p A3 c3 t _ W (Kd.C_below HR0.out hW) HK0.out (Kd.C_below HT4.out hW) HC3.out (hA kA (Nat.le_refl _))⟩
  by_cases h1 : l.length = 1
  · have h1b : ((l.length : Int) == 1) = true := by simp [h1]
    have HM := Aside0.mk (HM.out.trans (if_pos h1))
    clear h1
    by_cases h2 : p.length = t.length
    · have h2b : ((p.length : Int) == (t.length : Int)) = true := by simp [h2]
      have H2 := Aside0.mk h2
      clear h2
      go_wp2_with fail
      refine (AT0.out _ (Below.refl _ _)).mono ?_
      rintro e w5 ⟨rfl, hd⟩
      have HB5 := Aside0.mk (below_step HB4.out hd.below)
      clear hd
      go_wp2
      go_ret
      refine ⟨?_, HB5.out⟩
      rw [HM.out, beq_iff_eq.2 H2.out, Bool.true_and]
      rfl
    · have h2b : ((p.length : Int) == (t.length : Int)) = false := beq_eq_false_iff_ne.2 (by omega)
      have H2 := Aside0.mk h2
      clear h2
      go_wp2
      go_ret
      refine ⟨?_, HB4.out⟩
      rw [HM.out, beq_eq_false_iff_ne.2 H2.out, Bool.false_and]
      rfl
  have h1b : ((l.length : Int) == 1) = false := beq_eq_false_iff_ne.2 (by omega)
  have HM := Aside0.mk (HM.out.trans (if_neg h1))
  have H1 := Aside0.mk h1
  clear h1
  by_cases h2 : t.length < p.length + q.length
  · have h2b : decide ((t.length : Int) < (p.length : Int) + (q.length : Int)) = true := decide_eq_true (by omega)
    have HM := Aside0.mk (HM.out.trans (if_pos h2))
    clear h2
    go_wp2
    go_ret
    refine ⟨?_, HB4.out⟩
    rw [HM.out]
    rfl
  have h2b : decide ((t.length : Int) < (p.length : Int) + (q.length : Int)) = false := decide_eq_false (by omega)
  have HM := Aside0.mk (HM.out.trans (if_neg h2))
  have H2 := Aside0.mk h2
  cases h3 : atB p t with
  | false =>
    rw [h3] at AT0
    have HM := Aside0.mk (HM.out.trans (if_pos h3))
    clear h3 h2
    go_wp2_with fail
    refine (AT0.out _ (Below.refl _ _)).mono ?_
    rintro e w5 ⟨rfl, hd⟩
    have HB5 := Aside0.mk (below_step HB4.out hd.below)
    clear hd
    go_wp2
    go_ret
    refine ⟨?_, HB5.out⟩
    rw [HM.out]
    rfl
  | true =>
    rw [h3] at AT0
    have HM := Aside0.mk (HM.out.trans (if_neg (by rw [h3]; simp)))
    clear h3
    go_wp2_with fail
    refine (AT0.out _ (Below.refl _ _)).mono ?_
    rintro e w5 ⟨rfl, hd⟩
    have HB5 := Aside0.mk (below_step HB4.out hd.below)
    have HT5 := Aside0.mk (Kd.C_below HT4.out hd.below)
    have HL5 := Aside0.mk (Kd.C_below HL4.out hd.below)
    have HR5 := Aside0.mk (Kd.C_below HR1.out hd.below)
    clear hd AT0 HR0 HR1 HT4 HL4
    obtain ⟨i0, hi0, _, hsz0, _⟩ := info_parts info21
    obtain ⟨A5, hcut5, hA5, hC5⟩ := print_drop_of (P := Try.prog) (Value.int .i32) 0 93 21 .i64 Try.underlying93 hi0 hsz0 A3 c3 t ((t.length : Int) - (q.length : Int)) (by omega) (by omega) HC3.out
    have HD5 := Aside0.mk (Kd.C_of_reads (h1 := fun _ => rfl) (hA5 _ (Kd.reads_of_C HT5.out)))
    have HC5 := Aside0.mk hC5
    go_wp2_with fail
    rw [show ((t.length : Int) - (q.length : Int)).toNat = t.length - q.length by omega] at HD5 HC5
    have hdl : (t.drop (t.length - q.length)).length = t.length - (t.length - q.length) := List.length_drop
    have AT1 : Aside0 (Calls Try.prog 102 #[.slice B1 q.length d1, .slice A5 (t.length - (t.length - q.length)) (c3 - (t.length - q.length))] w5 fun e w' => e = .returned (.bool (atB q (t.drop (t.length - q.length)))) ∧ Drawn0 w5 w') := ⟨by
      obtain ⟨r, ⟨kA, hA⟩, hr⟩ := at_tot q (t.drop (t.length - q.length)) (by omega)
      subst hr
      rw [← hdl]
      exact glob_at.calls kA B1 d1 q A5 (c3 - (t.length - q.length)) (t.drop (t.length - q.length)) _ w5 HR5.out HK1.out HD5.out HC5.out (hA kA (Nat.le_refl _))⟩
    clear hcut5 hA5 hC5 HD5 HC5 hi0 hsz0
    refine AT1.out.mono ?_
    rintro e w6 ⟨rfl, hd⟩
    have HB6 := Aside0.mk (below_step HB5.out hd.below)
    have HT6 := Aside0.mk (Kd.C_below HT5.out hd.below)
    have HL6 := Aside0.mk (Kd.C_below HL5.out hd.below)
    clear hd AT1 HR5 HT5 HL5 HB5 HB4
    cases h4 : atB q (t.drop (t.length - q.length)) with
    | false =>
      have HM := Aside0.mk (HM.out.trans (if_pos h4))
      clear h4
      go_wp2
      go_ret
      refine ⟨?_, HB6.out⟩
      rw [HM.out]
      rfl
    | true =>
      have HM := Aside0.mk (HM.out.trans (if_neg (by rw [h4]; simp)))
      clear h4
      obtain ⟨i0, hi0, _, hsz0, _⟩ := info_parts info21
      obtain ⟨j0, hj0, _, hsj0, _⟩ := info_parts info93
      obtain ⟨A7, hcut7, hA7, hC7⟩ := print_mid_of (P := Try.prog) (Value.int .i32) 0 93 21 .i64 .i64 Try.underlying93 hi0 hsz0 A3 c3 t (p.length : Int) ((t.length : Int) - (q.length : Int)) (by omega) (by omega) (by omega) HC3.out
      have HD7 := Aside0.mk (Kd.C_of_reads (h1 := fun _ => rfl) (hA7 _ (Kd.reads_of_C HT6.out)))
      have HC7 := Aside0.mk hC7
      have hcutL := cut_mid (P := Try.prog) 123 93 .i64 .i64 Try.underlying123 hj0 1 hsj0 (some ad) l.length c2 1 ((l.length : Int) - 1) (by omega) (by have := H1.out; omega) (by omega) HC2.out
      obtain ⟨AL, hAL⟩ : ∃ A_ : Option Addr, A_ = (if c2 = (1 : Int).toNat then some ad else (some ad).map (·.add ((1 : Int).toNat * 1))) := ⟨_, rfl⟩
      simp only [← hAL] at hcutL
      have hml : ((l.take (l.length - 1)).drop 1).length = l.length - 1 - 1 := by rw [List.length_drop, List.length_take]; omega
      have HML : Aside0 (Kd.C (Kd.slice 21 (Kd.int .i32)) w6 AL ((l.take (l.length - 1)).drop 1).length ((l.take (l.length - 1)).drop 1)) := ⟨by
        rw [hAL]
        exact Kd.C_mid (lo := 1) (hi := l.length - 1) HL6.out (by have := H1.out; omega) (by omega) HC2.out⟩
      clear hAL
      go_wp2_with fail
      rw [show ((t.length : Int) - (q.length : Int)).toNat = t.length - q.length by omega, Int.toNat_natCast] at HD7 HC7
      have htl : ((t.take (t.length - q.length)).drop p.length).length = t.length - q.length - p.length := by rw [List.length_drop, List.length_take]; omega
      clear hcut7 hcutL hA7 hC7 hi0 hsz0 hj0 hsj0 HL6 HT6
      have HC7' : Aside0 (t.length - q.length - p.length ≤ c3 - p.length) := ⟨by rw [← htl]; exact HC7.out⟩
      rw [← htl] at HC7' ⊢
      rw [← hml]
      obtain ⟨c7, hc7⟩ : ∃ c_, c_ = c3 - p.length := ⟨_, rfl⟩
      obtain ⟨cL, hcL⟩ : ∃ c_, c_ = c2 - 1 := ⟨_, rfl⟩
      rw [← hc7] at HC7' ⊢
      rw [← hcL]
      have hmlp : ∀ i, (rd_L10 ((l.take (l.length - 1)).drop 1) i).length ≤ 9000000000000 := hmid
      have htb : ((t.take (t.length - q.length)).drop p.length).length ≤ 9000000000000 := by omega
      have hnb : ((l.take (l.length - 1)).drop 1).length ≤ 9000000000000 := by omega
      clear hc7 hcL htl hml h2 h2b h1b
      generalize (t.take (t.length - q.length)).drop p.length = t0 at HD7 HC7' HM htb ⊢
      generalize (l.take (l.length - 1)).drop 1 = ml at HML HM hmlp hnb ⊢
      go_loopg [6, 80] ml.length (fun gk v6 v80 wr => ∃ (kk : Nat) (tt : List Int) (A : Option Addr) (c : Nat), kk ≤ ml.length ∧ ml.length - kk ≤ gk ∧ tt.length ≤ 9000000000000 ∧ v6 = .slice A tt.length c ∧ v80 = .int .i64 kk ∧ Aside0 (Below w.heap.size w wr) ∧ Aside0 (Kd.C (Kd.int .i32) wr A tt.length tt) ∧ Aside0 (tt.length ≤ c) ∧ Aside0 (Kd.C (Kd.slice 21 (Kd.int .i32)) wr AL ml.length ml) ∧ Aside0 (midL (ml.drop kk) tt = res))
      case atStart => exact ⟨0, t0, A7, c7, Nat.zero_le _, by omega, htb, rfl, rfl, HB6, ⟨HD7.out⟩, HC7', HML, ⟨HM.out.symm⟩⟩
      case round =>
        obtain ⟨kk, tt, A, c, hkk, hg, htt, rfl, rfl, BW, TW, CW, LW, MW⟩ := hrel
        by_cases hlt : kk < ml.length
        · have hltz : (kk : Int) < (ml.length : Int) := by omega
          have hdk := List.drop_eq_getElem_cons hlt
          obtain ⟨ae, Bk, dk, e, gk0, kk0, rk⟩ := at_L10 LW.out (kk : Int) (by omega) (by omega)
          cases e
          simp only [Int.toNat_natCast] at gk0
          have hget : rd_L10 ml (kk : Int) = ml[kk] := by
            simp only [rd_L10, Int.toNat_natCast, List.getD_eq_getElem?_getD, List.getElem?_eq_getElem hlt, Option.getD_some]
          have hPl := hmlp (kk : Int)
          have MW2 := MW.out
          rw [hdk, midL, ← hget] at MW2
          have MW3 := Aside0.mk MW2
          clear MW MW2 hdk hget
          generalize rd_L10 ml (kk : Int) = P at gk0 kk0 rk hPl MW3
          have FI : Aside0 (Calls Try.prog 103 #[.slice Bk P.length dk, .slice A tt.length c] wr fun e w' => e = .returned (.int .i64 (findI P tt)) ∧ Drawn0 wr w') := ⟨by
            obtain ⟨r, ⟨kF, hF⟩, hr⟩ := find_tot P tt (by omega)
            subst hr
            exact glob_find.calls kF Bk dk P A c tt _ wr rk kk0 TW.out CW.out (hF kF (Nat.le_refl _))⟩
          have hfb := findI_bound P tt
          generalize findI P tt = f at FI hfb MW3
          clear rk kk0
          go_wp2_with fail
          refine FI.out.mono ?_
          rintro e w7 ⟨rfl, hd⟩
          have BW7 := Aside0.mk (below_step BW.out hd.below)
          have TW7 := Aside0.mk (Kd.C_below TW.out hd.below)
          have LW7 := Aside0.mk (Kd.C_below LW.out hd.below)
          clear hd FI gk0 BW TW LW
          by_cases hf : f < 0
          · have hfz : decide (f < 0) = true := decide_eq_true hf
            rw [if_pos hf] at MW3
            clear hf
            go_wp2
            go_ret
            refine ⟨?_, BW7.out⟩
            rw [← MW3.out]
            rfl
          · have hfz : decide (f < 0) = false := decide_eq_false hf
            rw [if_neg hf] at MW3
            have hf0 : 0 ≤ f := by omega
            have hf1 : f + (P.length : Int) ≤ (tt.length : Int) := by omega
            clear hf hfb
            obtain ⟨i0, hi0, _, hsz0, _⟩ := info_parts info21
            obtain ⟨A8, hcut8, hA8, hC8⟩ := print_drop_of (P := Try.prog) (Value.int .i32) 0 93 21 .i64 Try.underlying93 hi0 hsz0 A c tt (f + (P.length : Int)) (by omega) (by omega) CW.out
            have HD8 := Aside0.mk (Kd.C_of_reads (h1 := fun _ => rfl) (hA8 _ (Kd.reads_of_C TW7.out)))
            have HC8 := Aside0.mk hC8
            have hdl8 : (tt.drop (f + (P.length : Int)).toNat).length ≤ tt.length := by rw [List.length_drop]; omega
            clear hA8 hC8
            go_wp2
            go_roundg (ml.length - (kk + 1))
            case measure => omega
            case rel => exact ⟨kk + 1, tt.drop (f + (P.length : Int)).toNat, A8, c - (f + (P.length : Int)).toNat, by omega, by omega, by omega, by simp, by simp, BW7, ⟨HD8.out⟩, HC8, LW7, MW3⟩
        · have hltz : ¬ ((kk : Int) < (ml.length : Int)) := by omega
          go_wp2
          go_ret
          refine ⟨?_, BW.out⟩
          rw [← MW.out, List.drop_of_length_le (by omega)]
          rfl
end Go.Proofs.Ytdedmhmomoejkaa.X
namespace Go.Proofs.Ytdedmhmomoejkaa.X
open Go.RowKit Go.Proofs.YtdedmhmomoejkaaW.PrintWords Go.Proofs.YtdedmhmomoejkaaW.PrintLast Go.Proofs.YtdedmhmomoejkaaW.PrintMore
attribute [local go_sem] max2_int max_two
set_option linter.unusedVariables false
set_option linter.unusedSimpArgs false
def glob_parts.l0 : Nat → List Int → List (List Int) → Option ((List (List Int)))
 | 0, _, _ => none
 | k + 1, x0, x3 => (slices_Index_rune_rune.f k x0 37).bind fun t486 => (if t486 < 0 then (if x3.length < 5864062014805 then (some (x3 ++ [x0])) else (none)) else (if 0 ≤ t486 then (if t486 ≤ (x0.length : Int) then (if x3.length < 5864062014805 then (if 0 ≤ (wrap64 (t486 + 1)) then (if (wrap64 (t486 + 1)) ≤ (x0.length : Int) then (glob_parts.l0 k (x0.drop ((wrap64 (t486 + 1)) : Int).toNat) (x3 ++ [(x0.take (t486 : Int).toNat)])) else (none)) else (none)) else (none)) else (none)) else (none)))
def glob_parts.f (k : Nat) (l0 : List Int) : Option ((List (List Int))) := glob_parts.l0 k l0 ([] : List (List Int))
theorem glob_parts.mono_l : ∀ k, (∀ y0 y1, LeO (glob_parts.l0 k y0 y1) (glob_parts.l0 (k + 1) y0 y1))
 | 0 => fun _ _ r h => by simp [glob_parts.l0] at h
 | k + 1 => by
  have ih0 := glob_parts.mono_l k
  ·intro y0 y1
   unfold glob_parts.l0
   repeat' first
   | (with_reducible exact ih0 _ _)
   | (with_reducible exact slices_Index_rune_rune.mono _ _ _)
   | (with_reducible exact LeO.refl _)
   | (with_reducible exact LeO.none _)
   | (with_reducible refine LeO.ite ?_ ?_)
   | (with_reducible refine LeO.bind ?_ (fun _ => ?_))
   | exact ih0 _ _
   | exact slices_Index_rune_rune.mono _ _ _
   | exact LeO.none _
   | refine LeO.ite ?_ ?_
   | refine LeO.bind ?_ (fun _ => ?_)
theorem glob_parts.mono : ∀ a0 k, LeO (glob_parts.f k a0) (glob_parts.f (k + 1) a0) := by
 intro a0 k
 have ih0 := glob_parts.mono_l k
 unfold glob_parts.f
 repeat' first
   | (with_reducible exact ih0 _ _)
   | (with_reducible exact slices_Index_rune_rune.mono _ _ _)
   | (with_reducible exact LeO.refl _)
   | (with_reducible exact LeO.none _)
   | (with_reducible refine LeO.ite ?_ ?_)
   | (with_reducible refine LeO.bind ?_ (fun _ => ?_))
   | exact ih0 _ _
   | exact slices_Index_rune_rune.mono _ _ _
   | exact LeO.none _
   | refine LeO.ite ?_ ?_
   | refine LeO.bind ?_ (fun _ => ?_)
def glob_parts.T5 : Bool × List (List Nat × List Nat) := (true, [([], []), ([], []), ([], []), ([1, 2], [1, 2]), ([3], [3]), ([0, 4], [0, 4]), ([], []), ([], []), ([7], [7]), ([6, 8], [6, 8]), ([5, 5, 0, 1, 2, 3, 4, 5], [0, 5]), ([9, 10, 0, 1, 2, 3, 4, 5, 6, 7, 8, 9, 10], [1, 6, 9])])
def glob_parts.B5 : List Nat := [0, 0, 0, 6, 14, 31, 0, 0, 128, 448, 63, 2047]
theorem glob_parts.tab5 : rtab .any (opsOf Try.f100 5) = glob_parts.T5 := by kernel_rfl
theorem glob_parts.bits5 : waitsOk glob_parts.T5.2 glob_parts.B5 = true := by kernel_rfl
set_option maxHeartbeats 8000000 in
set_option maxRecDepth 100000 in
theorem glob_parts.calls (k : Nat) (P0_ : Nat → Prop) (A0 : Option Addr) (c0 : Nat) (l0 : List Int) (r : List (List Int)) (w : World) (hs0 : Kd.V (Kd.int .i32) 21 w w.heap.size (fun k_ => P0_ k_) (.slice A0 l0.length c0) l0) (h : glob_parts.f k l0 = some r) :
  Calls Try.prog 100 #[.slice A0 l0.length c0] w fun e w' => ∃ v0_ : Value, e = .returned (v0_) ∧ Kd.N (Kd.slice 21 (Kd.int .i32)) 93 w' w.heap.size (fun k_ => (P0_ k_ ∨ w.heap.size ≤ k_)) v0_ r ∧ Below w.heap.size w w' := by
 have HO0 := Aside0.mk (show Kd.V (Kd.int .i32) 21 w w.heap.size (fun k_ => (P0_ k_ ∨ w.heap.size ≤ k_)) (.slice A0 l0.length c0) l0 from Kd.V_mono hs0 (fun k_ hk => .inl hk))
 have HB := Aside0.mk (Below.refl w.heap.size w)
 have H : (glob_parts.l0 k l0 ([] : List (List Int))) = some r := h
 clear h
 have H' := Aside0.mk H
 clear H
 go_enter Try.func100, Try.ntmps100
 go_wp2
 go_loopg [0, 3] k (fun kq v0 v3 w' => ∃ (x0_1 : List Int) (x3_1 : List (List Int)), Aside0 (glob_parts.l0 kq x0_1 x3_1 = some r) ∧ Aside0 (kq ≤ k) ∧ Aside0 (Kd.V (Kd.int .i32) 21 w' w.heap.size (fun k_ => (P0_ k_ ∨ w.heap.size ≤ k_) ∧ some k_ ≠ (v3 : Value).ownBlock) v0 x0_1) ∧ Aside0 (Kd.N (Kd.slice 21 (Kd.int .i32)) 93 w' w.heap.size (fun k_ => (P0_ k_ ∨ w.heap.size ≤ k_)) v3 x3_1) ∧ Aside0 (Below w.heap.size w w'))
 case atStart => exact ⟨_, _, H', ⟨Nat.le_refl _⟩, ⟨by (with_reducible repeat (first | apply Kd.V_alloc | apply Kd.V_drewN | apply Kd.V_drew)); exact Kd.V_mono HO0.out (fun _ hk => ⟨hk, (by simp [Value.ownBlock])⟩)⟩, ⟨by first | exact Kd.S_nil _ _ _ _ _ | exact Kd.N_nil _ _ _ _ _ | exact Kd.V_nil _ _ _ _ _ | exact Kd.Q_nil _ _ _ _ _ | exact Kd.R_nil _ _ _ _ _⟩, ⟨by repeat (first | (with_reducible first | exact HB.out | apply below_alloc | apply pw_below_drewN | apply below_drew1) | exact HB.out)⟩⟩
 case round =>
  clear H'
  try clear c1
  obtain ⟨x0_1, x3_1, HA, HK1, HO_0, HO_3, HB⟩ := hrel
  cases gk with
  | zero => exact absurd HA.out (by simp [glob_parts.l0])
  | succ k1 =>
   have H := HA.out
   clear HA
   simp only [glob_parts.l0] at H
   replace H := Option.bind_eq_some_iff.mp H
   obtain ⟨t486, A20, H⟩ := H
   replace H : (if t486 < 0 then (if x3_1.length < 5864062014805 then (some (x3_1 ++ [x0_1])) else (none)) else (if 0 ≤ t486 then (if t486 ≤ (x0_1.length : Int) then (if x3_1.length < 5864062014805 then (if 0 ≤ (wrap64 (t486 + 1)) then (if (wrap64 (t486 + 1)) ≤ (x0_1.length : Int) then (glob_parts.l0 k1 (x0_1.drop ((wrap64 (t486 + 1)) : Int).toNat) (x3_1 ++ [(x0_1.take (t486 : Int).toNat)])) else (none)) else (none)) else (none)) else (none)) else (none))) = some r := H
   have A2 := Aside0.mk A20
   clear A20
   by_cases c3 : t486 < 0
   ·rw [if_pos c3] at H
    have c3b0 : decide (t486 < 0) = true := decide_eq_true c3
    clear c3
    by_cases c4 : x3_1.length < 5864062014805
    ·rw [if_pos c4] at H
     have LMc4 := Aside0.mk c4
     clear c4
     obtain ⟨y487, hy487⟩ : ∃ y_ : List (List Int), y_ = (x3_1 ++ [x0_1]) := ⟨_, rfl⟩
     replace H : (some y487) = some r := by first | (rw [hy487]; with_reducible exact H) | (have H2_ := (Option.bind_some _ _).symm.trans H; rw [hy487]; with_reducible exact H2_) | (have H2_ := (Option.bind_some _ _).symm.trans H; with_reducible exact H2_) | with_reducible exact H | (rw [hy487]; exact H) | exact H
     have Ny487 := Aside0.mk hy487
     clear hy487
     obtain rfl := Option.some.inj H
     obtain ⟨Ao5, co5, eo5⟩ := Kd.V_slice HO_0.out
     subst eo5
     go_wp2_with (first | ((with_reducible refine gate_callee (f := 108) rfl ?_); refine gl_ (some 6) rfl Try.func108 #[.slice Ao5 x0_1.length co5, .int .i32 37] ?_; (with_reducible refine (slices_Index_rune_rune.calls k1 _ _ x0_1 37 t486 _ ?side1 ?side2 A2.out).mono ?_); (case side1 => repeat (first | exact (Kd.V_reads' HO_0.out).2.2 | (with_reducible refine Kd.C_alloc ?_ _) | (with_reducible refine Kd.C_drewN ?_ _) | (with_reducible refine Kd.C_drew ?_))); (case side2 => exact (Kd.V_reads' HO_0.out).2.1); rintro e w' ⟨rfl, ⟨nd, rfl⟩⟩; refine ⟨_, rfl, ?_⟩) | ((with_reducible refine gate_builtin (b := .append) (xs := #[.tmp 9, .tmp 11]) rfl ?_); at_builtin; refine Kd.N_append (Kd.slice 21 (Kd.int .i32)) (w0 := w) w.heap.size rfl (.tmp 9) (.tmp 11) 123 93 (.slice none 0 0) 24 rfl Try.underlying123 info93 rfl (by decide) (by omega) u3 x3_1 x0_1 [.slice Ao5 x0_1.length co5] (fun k_ => (P0_ k_ ∨ w.heap.size ≤ k_)) (fun k_ => ((fun k_ => (P0_ k_ ∨ w.heap.size ≤ k_))) k_ ∧ some k_ ≠ (u3 : Value).ownBlock) rfl rfl ?aP (fun _ hk => hk) ?aF ?aO ?aB ?aS ?aL ?_; (case aP => exact (Kd.FK_slice_mk (Kd.V_reads' (Kd.V_mono (ok' := (fun k_ => ((fun k_ => (P0_ k_ ∨ w.heap.size ≤ k_))) k_ ∧ some k_ ≠ (u3 : Value).ownBlock)) (HO_0.out) (fun k_ hk => ⟨hk.1, hk.2⟩))).2.1 (Kd.V_F (Kd.V_mono (ok' := (fun k_ => ((fun k_ => (P0_ k_ ∨ w.heap.size ≤ k_))) k_ ∧ some k_ ≠ (u3 : Value).ownBlock)) (Kd.V_drewN HO_0.out _) (fun k_ hk => ⟨hk.1, hk.2⟩))))); (case aB => exact (by repeat (first | (with_reducible first | exact HB.out | apply below_alloc | apply pw_below_drewN | apply below_drew1) | exact HB.out))); (case aF => exact (fun k_ hk => (.inr (Nat.le_trans (below_size (by repeat (first | (with_reducible first | exact HB.out | apply below_alloc | apply pw_below_drewN | apply below_drew1) | exact HB.out))) hk)))); (case aO => exact (by (with_reducible repeat (first | apply Kd.N_alloc | apply Kd.N_drewN | apply Kd.N_drew)); exact HO_3.out)); (case aS => exact (below_size (by repeat (first | (with_reducible first | exact HB.out | apply below_alloc | apply pw_below_drewN | apply below_drew1) | exact HB.out)))); (case aL => have := LMc4.out; omega); intro v488 w6 ho hb hg hat; rw [← Ny487.out] at ho; have n0_ := Aside0.mk (Kd.V_afterv (ok := (fun k_ => (P0_ k_ ∨ w.heap.size ≤ k_))) (by (with_reducible repeat (first | apply Kd.V_alloc | apply Kd.V_drewN | apply Kd.V_drew)); exact HO_0.out) hg hat); have n1_ := Aside0.mk (hb); have n2_ := Aside0.mk (ho); clear HO_0; clear HB; clear HO_3; have HO_0 := n0_; have HB := n1_; have HO489 := n2_; clear n0_ n1_ n2_; clear ho hb hg hat))
     go_ret
     exact ⟨_, by first | rfl | (simp [errW_none, errW_some] <;> rfl) | (simp [*, errW_none, errW_some] <;> rfl), by (with_reducible repeat (first | apply Kd.N_alloc | apply Kd.N_drewN | apply Kd.N_drew)); exact HO489.out, by repeat (first | (with_reducible first | exact HB.out | apply below_alloc | apply pw_below_drewN | apply below_drew1) | exact HB.out)⟩
    ·rw [if_neg c4] at H
     exact absurd H (by simp)
   ·rw [if_neg c3] at H
    have c3b0 : decide (t486 < 0) = false := decide_eq_false c3
    clear c3
    by_cases c7 : 0 ≤ t486
    ·rw [if_pos c7] at H
     have c7b0 := eq_true c7
     have c7b1 : decide (0 ≤ t486) = true := decide_eq_true c7
     clear c7
     by_cases c8 : t486 ≤ (x0_1.length : Int)
     ·rw [if_pos c8] at H
      have c8b0 := eq_true c8
      have c8b1 : decide (t486 ≤ (x0_1.length : Int)) = true := decide_eq_true c8
      clear c8
      obtain ⟨y490, hy490⟩ : ∃ y_ : List Int, y_ = (x0_1.take (t486 : Int).toNat) := ⟨_, rfl⟩
      replace H : (if x3_1.length < 5864062014805 then (if 0 ≤ (wrap64 (t486 + 1)) then (if (wrap64 (t486 + 1)) ≤ (x0_1.length : Int) then (glob_parts.l0 k1 (x0_1.drop ((wrap64 (t486 + 1)) : Int).toNat) (x3_1 ++ [y490])) else (none)) else (none)) else (none)) = some r := by first | (rw [hy490]; with_reducible exact H) | (have H2_ := (Option.bind_some _ _).symm.trans H; rw [hy490]; with_reducible exact H2_) | (have H2_ := (Option.bind_some _ _).symm.trans H; with_reducible exact H2_) | with_reducible exact H | (rw [hy490]; exact H) | exact H
      have Ny490 := Aside0.mk hy490
      clear hy490
      by_cases c9 : x3_1.length < 5864062014805
      ·rw [if_pos c9] at H
       have LMc9 := Aside0.mk c9
       clear c9
       obtain ⟨y495, hy495⟩ : ∃ y_ : List (List Int), y_ = (x3_1 ++ [y490]) := ⟨_, rfl⟩
       replace H : (if 0 ≤ (wrap64 (t486 + 1)) then (if (wrap64 (t486 + 1)) ≤ (x0_1.length : Int) then (glob_parts.l0 k1 (x0_1.drop ((wrap64 (t486 + 1)) : Int).toNat) y495) else (none)) else (none)) = some r := by first | (rw [hy495]; with_reducible exact H) | (have H2_ := (Option.bind_some _ _).symm.trans H; rw [hy495]; with_reducible exact H2_) | (have H2_ := (Option.bind_some _ _).symm.trans H; with_reducible exact H2_) | with_reducible exact H | (rw [hy495]; exact H) | exact H
       have Ny495 := Aside0.mk hy495
       clear hy495
       obtain ⟨ji10, hji10⟩ : ∃ j_ : Int, (wrap64 (t486 + 1)) = j_ := ⟨_, rfl⟩
       replace H : (if 0 ≤ (ji10) then (if (ji10) ≤ (x0_1.length : Int) then (glob_parts.l0 k1 (x0_1.drop ((ji10) : Int).toNat) y495) else (none)) else (none)) = some r := by first | (rw [hji10] at H; exact H) | (simp only [hji10] at H ⊢; exact H)
       (try rw [hji10] at A2)
       have hji10w : (IntKind.i64.wrap (t486 + 1)) = ji10 := (i64_w _).trans hji10
       by_cases c11 : 0 ≤ (ji10)
       ·rw [if_pos c11] at H
        have c11b0 := eq_true c11
        have c11b1 : decide (0 ≤ (ji10)) = true := decide_eq_true c11
        clear c11
        by_cases c12 : (ji10) ≤ (x0_1.length : Int)
        ·rw [if_pos c12] at H
         have c12b0 := eq_true c12
         have c12b1 : decide ((ji10) ≤ (x0_1.length : Int)) = true := decide_eq_true c12
         clear c12
         obtain ⟨y498, hy498⟩ : ∃ y_ : List Int, y_ = (x0_1.drop ((ji10) : Int).toNat) := ⟨_, rfl⟩
         replace H : (glob_parts.l0 k1 y498 y495) = some r := by first | (rw [hy498]; with_reducible exact H) | (have H2_ := (Option.bind_some _ _).symm.trans H; rw [hy498]; with_reducible exact H2_) | (have H2_ := (Option.bind_some _ _).symm.trans H; with_reducible exact H2_) | with_reducible exact H | (rw [hy498]; exact H) | exact H
         have Ny498 := Aside0.mk hy498
         clear hy498
         have H' := Aside0.mk H
         clear H
         obtain ⟨Ao13, co13, eo13⟩ := Kd.V_slice HO_0.out
         subst eo13
         try go_wp2_with (first | ((with_reducible refine gate_callee (f := 108) rfl ?_); refine gl_ (some 6) rfl Try.func108 #[.slice Ao13 x0_1.length co13, .int .i32 37] ?_; (with_reducible refine (slices_Index_rune_rune.calls k1 _ _ x0_1 37 t486 _ ?side1 ?side2 A2.out).mono ?_); (case side1 => repeat (first | exact (Kd.V_reads' HO_0.out).2.2 | (with_reducible refine Kd.C_alloc ?_ _) | (with_reducible refine Kd.C_drewN ?_ _) | (with_reducible refine Kd.C_drew ?_))); (case side2 => exact (Kd.V_reads' HO_0.out).2.1); rintro e w' ⟨rfl, ⟨nd, rfl⟩⟩; refine ⟨_, rfl, ?_⟩))
         (try (rw [drewN_self wr]; generalize hq_ : World.drewN wr _ = wr; have n0_ : Aside0 (Kd.V (Kd.int .i32) 21 wr w.heap.size (fun k_ => (P0_ k_ ∨ w.heap.size ≤ k_) ∧ some k_ ≠ (u3 : Value).ownBlock) (.slice Ao13 x0_1.length co13) x0_1) := ⟨by rw [← hq_]; exact (by (with_reducible repeat (first | apply Kd.V_alloc | apply Kd.V_drewN | apply Kd.V_drew)); exact HO_0.out)⟩; have n1_ : Aside0 (Kd.N (Kd.slice 21 (Kd.int .i32)) 93 wr w.heap.size (fun k_ => (P0_ k_ ∨ w.heap.size ≤ k_)) u3 x3_1) := ⟨by rw [← hq_]; exact (by (with_reducible repeat (first | apply Kd.N_alloc | apply Kd.N_drewN | apply Kd.N_drew)); exact HO_3.out)⟩; have n2_ : Aside0 (Below w.heap.size w wr) := ⟨by rw [← hq_]; exact (by repeat (first | (with_reducible first | exact HB.out | apply below_alloc | apply pw_below_drewN | apply below_drew1) | exact HB.out))⟩; clear HO_0 HO_3 HB hq_; have HO_0 := n0_; have HO_3 := n1_; have HB := n2_; clear n0_ n1_ n2_))
         replace HO_0 := Aside0.mk (Kd.V_drew HO_0.out); replace HO_3 := Aside0.mk (Kd.N_drew HO_3.out); replace HB := Aside0.mk (below_drew1 HB.out)
         have q15 : (t486 : Int) ≤ ((x0_1.length : Int) : Int) := dt_
         obtain ⟨i015, hi015, _, hsz15, _⟩ := info_parts info21
         have hroom15 : x0_1.length ≤ co13 := (Kd.V_reads' HO_0.out).2.1
         have hC15 : Kd.F (Kd.int .i32) _ _ Ao13 x0_1.length x0_1 := (Kd.V_at (base := w.heap.size) HO_0.out).2.2
         have hcut15 := cut_to (P := Try.prog) 93 21 .i64 Try.underlying93 hi015 Ao13 x0_1.length co13 t486 (dt_) q15 hroom15
         have hr15 := Kd.F_take (m := (t486 : Int).toNat) hC15 (by omega)
         have hy15 : y490.length = (t486 : Int).toNat := (by rw [Ny490.out, List.length_take]; omega)
         rw [← Ny490.out] at hr15
         rw [← hy15] at hcut15
         have HO494 := Aside0.mk (show Kd.V (Kd.int .i32) 21 _ w.heap.size _ (.slice Ao13 y490.length co13) y490 from Kd.V_mk (by omega) hr15)
         have HC494 := Aside0.mk (show y490.length ≤ co13 from by omega)
         clear hr15 hC15 hroom15 hi015 hsz15
         have KY15 := Aside0.mk hy15
         clear hy15
         replace q15 := eq_true q15
         have q16 : ((ji10) : Int) ≤ ((x0_1.length : Int) : Int) := dt_
         obtain ⟨i016, hi016, _, hsz16, _⟩ := info_parts info21
         have hroom16 : x0_1.length ≤ co13 := (Kd.V_reads' HO_0.out).2.1
         have hC16 : Kd.F (Kd.int .i32) _ _ Ao13 x0_1.length x0_1 := (Kd.V_at (base := w.heap.size) HO_0.out).2.2
         have q016 : (0 : Int) ≤ ((ji10) : Int) := dt_
         have hcut16 := cut_from (P := Try.prog) 93 21 .i64 Try.underlying93 hi016 1 hsz16 Ao13 x0_1.length co13 (ji10) q016 q16
         have hr16 := Kd.F_cut (m := ((ji10) : Int).toNat) (c := co13) hC16 (by omega) hroom16
         obtain ⟨A16, hA16⟩ : ∃ A1, A1 = (if co13 = ((ji10) : Int).toNat then Ao13 else (Ao13 : Option Addr).map (·.add (((ji10) : Int).toNat * 1))) := ⟨_, rfl⟩
         obtain ⟨c16, hc16⟩ : ∃ c1, c1 = co13 - ((ji10) : Int).toNat := ⟨_, rfl⟩
         have hy16 : y498.length = x0_1.length - ((ji10) : Int).toNat := (by rw [Ny498.out, List.length_drop] <;> omega)
         rw [show (x0_1).drop ((ji10) : Int).toNat = y498 from Ny498.out.symm] at hr16
         replace hr16 : Kd.F (Kd.int .i32) _ _ A16 y498.length y498 := (by rw [hA16]; exact hr16)
         rw [← hy16, ← hA16, ← hc16] at hcut16
         have HO502 := Aside0.mk (show Kd.V (Kd.int .i32) 21 _ w.heap.size _ (.slice A16 y498.length c16) y498 from Kd.V_mk (by rw [hy16, hc16]; exact Nat.sub_le_sub_right hroom16 _) hr16)
         have HC502 := Aside0.mk (show y498.length ≤ c16 from by rw [hy16, hc16]; exact Nat.sub_le_sub_right hroom16 _)
         clear hr16 hC16 hroom16 hi016 hsz16 hc16
         have KY16 := Aside0.mk hy16
         have KA16 := Aside0.mk hA16
         clear hy16 hA16
         replace q16 := eq_true q16
         refine start_ (n := 12) (S := fun w' => True) (ds := []) #[false, false, false, false, false, false, false, false, false, false, false, false] (by kernel_rfl) rfl rfl trivial (fun hHeld => ?_); refine with_tabW glob_parts.tab5 glob_parts.bits5 (fun HT_ HW_ => ?_)
         generalize wr.drew = w14 at HO_0 HO_3 HB HO494 HO502 hHeld ⊢
         refine pu_ 0 (some 13) (bl_ 12 1) ?_
         refine pu_ 1 (some 14) (bl_ 12 3) ?_
         refine pu_ 2 (some 15) (bl_ 12 7) ?_
         refine pu_ 3 (some 16) (bl_ 12 15) ?_
         refine pu_ 6 (some 19) (bl_ 12 79) ?_
         refine pu_ 7 (some 20) (bl_ 12 207) ?_
         refine pu_ 8 (some 21) (bl_ 12 463) ?_
         refine pu_ 9 (some 22) (bl_ 12 975) ?_
         refine one_ (i := 4) (N := some 17) #[true, true, true, true, true, false, true, true, true, true, false, false] rfl rfl (one_of HT_.out (by kernel_rfl)) (by decide) (fun K hK => ?_)
         refine value_ (w1 := ?_) (v := ?_) (by rfl) rfl ?_ ?_
         rotate_left 2
         ·go_simp
          constructor
          ·rfl
          ·rfl
         refine hK.out _ _ trivial (fun hHeld => ?_)
         clear hK K
         refine norm_ (a' := ?_) ?_ ?_
         rotate_left
         ·show Act.put _ (some 17) _ = _
          simp only [Act.put, List.setIfInBounds_toArray, List.set_cons_zero, List.set_cons_succ, i64_w, i32_w]
          rfl
         refine one_ (i := 5) (N := some 18) #[true, true, true, true, true, true, true, true, true, true, false, false] rfl rfl (one_of HT_.out (by kernel_rfl)) (by decide) (fun K hK => ?_)
         refine Kd.N_append_step (Kd.slice 21 (Kd.int .i32)) (w0 := w) w.heap.size (by rfl) (.tmp 13) (.tmp 17) 123 93 (.slice none 0 0) 24 rfl Try.underlying123 info93 rfl (by decide) (by omega) u3 x3_1 y490 [.slice Ao13 y490.length co13] (fun k_ => (P0_ k_ ∨ w.heap.size ≤ k_)) (fun k_ => ((fun k_ => (P0_ k_ ∨ w.heap.size ≤ k_))) k_ ∧ some k_ ≠ (u3 : Value).ownBlock) rfl rfl ?aP (fun _ hk => hk) ?aF ?aO ?aB ?aS ?aL ?_
         (case aP => exact (Kd.FK_slice_mk (Kd.V_reads' (Kd.V_mono (ok' := (fun k_ => ((fun k_ => (P0_ k_ ∨ w.heap.size ≤ k_))) k_ ∧ some k_ ≠ (u3 : Value).ownBlock)) (HO494.out) (fun k_ hk => ⟨hk.1, hk.2⟩))).2.1 (Kd.V_F (Kd.V_mono (ok' := (fun k_ => ((fun k_ => (P0_ k_ ∨ w.heap.size ≤ k_))) k_ ∧ some k_ ≠ (u3 : Value).ownBlock)) (HO494.out) (fun k_ hk => ⟨hk.1, hk.2⟩)))))
         (case aB => exact (by repeat (first | (with_reducible first | exact HB.out | apply below_alloc | apply pw_below_drewN | apply below_drew1) | exact HB.out)))
         (case aF => exact (fun k_ hk => (.inr (Nat.le_trans (below_size (by repeat (first | (with_reducible first | exact HB.out | apply below_alloc | apply pw_below_drewN | apply below_drew1) | exact HB.out))) hk))))
         (case aO => exact (by (with_reducible repeat (first | apply Kd.N_alloc | apply Kd.N_drewN | apply Kd.N_drew)); exact HO_3.out))
         (case aS => exact (below_size (by repeat (first | (with_reducible first | exact HB.out | apply below_alloc | apply pw_below_drewN | apply below_drew1) | exact HB.out))))
         (case aL => have := LMc9.out; omega)
         intro v496 w17 ho hb hg hat
         rw [← Ny495.out] at ho
         have n0_ := Aside0.mk (Kd.V_afterv (ok := (fun k_ => (P0_ k_ ∨ w.heap.size ≤ k_))) (by (with_reducible repeat (first | apply Kd.V_alloc | apply Kd.V_drewN | apply Kd.V_drew)); exact HO_0.out) hg hat)
         have n1_ := Aside0.mk (Kd.V_afterv (ok := (fun k_ => (P0_ k_ ∨ w.heap.size ≤ k_))) (by (with_reducible repeat (first | apply Kd.V_alloc | apply Kd.V_drewN | apply Kd.V_drew)); exact HO494.out) hg hat)
         have n2_ := Aside0.mk (Kd.V_afterv (ok := (fun k_ => (P0_ k_ ∨ w.heap.size ≤ k_))) (by (with_reducible repeat (first | apply Kd.V_alloc | apply Kd.V_drewN | apply Kd.V_drew)); exact HO502.out) hg hat)
         have n3_ := Aside0.mk (hb)
         have n4_ := Aside0.mk (ho)
         clear HO_0
         clear HO494
         clear HO502
         clear HB
         clear HO_3
         have HO_0 := n0_
         have HO494 := n1_
         have HO502 := n2_
         have HB := n3_
         have HO497 := n4_
         clear n0_ n1_ n2_ n3_ n4_
         clear ho hb hg hat
         refine hK.out _ _ trivial (fun hHeld => ?_)
         clear hK K
         refine norm_ (a' := ?_) ?_ ?_
         rotate_left
         ·show Act.put _ (some 18) _ = _
          simp only [Act.put, List.setIfInBounds_toArray, List.set_cons_zero, List.set_cons_succ, i64_w, i32_w]
          rfl
         refine pu_ 10 (some 3) (bl_ 12 2047) ?_
         refine pu_ 11 (some 0) (bl_ 12 4095) ?_
         refine done_ (done_of HT_.out (by kernel_rfl)) ?_
         try go_wp2
         go_roundg k1
         case measure => have := HK1.out; omega
         case rel => exact ⟨_, _, H', ⟨by have := HK1.out; omega⟩, ⟨by (with_reducible repeat (first | apply Kd.V_alloc | apply Kd.V_drewN | apply Kd.V_drew)); exact HO502.out⟩, ⟨by (with_reducible repeat (first | apply Kd.N_alloc | apply Kd.N_drewN | apply Kd.N_drew)); exact HO497.out⟩, ⟨by repeat (first | (with_reducible first | exact HB.out | apply below_alloc | apply pw_below_drewN | apply below_drew1) | exact HB.out)⟩⟩
        ·rw [if_neg c12] at H
         exact absurd H (by simp)
       ·rw [if_neg c11] at H
        exact absurd H (by simp)
      ·rw [if_neg c9] at H
       exact absurd H (by simp)
     ·rw [if_neg c8] at H
      exact absurd H (by simp)
    ·rw [if_neg c7] at H
     exact absurd H (by simp)
end Go.Proofs.Ytdedmhmomoejkaa.X
namespace Go.Proofs.Ytdedmhmomoejkaa.X
open Go.RowKit Go.Proofs.YtdedmhmomoejkaaW.PrintWords Go.Proofs.YtdedmhmomoejkaaW.PrintLast
set_option linter.unusedVariables false
set_option linter.unusedSimpArgs false
theorem parts_tot : ∀ (n : Nat) (x : List Int) (acc : List (List Int)), x.length ≤ n → acc.length + x.length ≤ 4500000000000 → TotP (fun r => r = acc ++ splitL x) (fun k => glob_parts.l0 k x acc) := by
  intro n
  induction n with
  | zero =>
    intro x acc hx hb
    refine TotP.succ (fun k => by simp only [glob_parts.l0]; rfl) ?_
    refine TotP.bind (index_tot x 37 (by omega)) (fun t ht => ?_)
    subst ht
    have hbd := idxI_bound 37 x
    refine TotP.ite (fun h => ?_) (fun h => absurd (show idxI 37 x < 0 by omega) h)
    refine TotP.ite (fun _ => TotP.some_ (by rw [split_none x h])) (fun h' => absurd (by omega) h')
  | succ n ih =>
    intro x acc hx hb
    refine TotP.succ (fun k => by simp only [glob_parts.l0]; rfl) ?_
    refine TotP.bind (index_tot x 37 (by omega)) (fun t ht => ?_)
    subst ht
    have hbd := idxI_bound 37 x
    refine TotP.ite (fun h => ?_) (fun h => ?_)
    · exact TotP.ite (fun _ => TotP.some_ (by rw [split_none x h])) (fun h' => absurd (by omega) h')
    · have hw : wrap64 (idxI 37 x + 1) = idxI 37 x + 1 := wrap_in (by omega) (by omega)
      rw [hw]
      refine TotP.ite (fun _ => ?_) (fun h' => absurd (by omega) h')
      refine TotP.ite (fun _ => ?_) (fun h' => absurd (by omega) h')
      refine TotP.ite (fun _ => ?_) (fun h' => absurd (by omega) h')
      refine TotP.ite (fun _ => ?_) (fun h' => absurd (by omega) h')
      refine TotP.ite (fun _ => ?_) (fun h' => absurd (by omega) h')
      have e1 : (idxI 37 x + 1).toNat = (idxI 37 x).toNat + 1 := by omega
      rw [e1]
      have hdl : (x.drop ((idxI 37 x).toNat + 1)).length ≤ n := by rw [List.length_drop]; omega
      refine (ih _ _ hdl ?_).weak (fun r hr => ?_)
      · rw [List.length_append, List.length_drop]
        simp only [List.length_cons, List.length_nil]
        omega
      · rw [hr, split_some x (by omega)]
        simp
theorem split_len : ∀ (s : List Int), (splitL s).length ≤ s.length + 1
  | [] => by simp [splitL]
  | c :: r => by
    have := split_len r
    rw [splitL]
    split
    · simp; omega
    · cases h : splitL r with
      | nil => simp
      | cons a b => rw [h] at this; simp at this ⊢; omega
theorem split_each : ∀ (s : List Int) (p : List Int), p ∈ splitL s → p.length ≤ s.length
  | [], p, h => by simp [splitL] at h; simp [h]
  | c :: r, p, h => by
    have ih := split_each r
    rw [splitL] at h
    split at h
    · rcases List.mem_cons.1 h with rfl | h
      · simp
      · have := ih p h; simp only [List.length_cons]; omega
    · cases hs : splitL r with
      | nil => rw [hs] at h; simp at h; subst h; simp
      | cons a b =>
        rw [hs] at h ih
        rcases List.mem_cons.1 h with rfl | h
        · have := ih a List.mem_cons_self; simp only [List.length_cons]; omega
        · have := ih p (List.mem_cons_of_mem _ h); simp only [List.length_cons]; omega
theorem rdL_len (l : List (List Int)) (n : Nat) (h : ∀ p, p ∈ l → p.length ≤ n) (i : Int) : (rd_L10 l i).length ≤ n := by
  unfold rd_L10
  rw [List.getD_eq_getElem?_getD]
  cases hx : l[i.toNat]? with
  | none => simp
  | some p => exact h p (List.mem_of_getElem? hx)
def globM (pat s : ByteArray) : Bool := matchL (splitL (foldR pat)) (foldR s)
theorem glob_match (pat s : ByteArray) (hp : pat.size ≤ 4398046511104) (hs : s.size ≤ 4398046511104) (w : World) :
    Calls Try.prog 81 #[.string pat, .string s] w fun e w' => e = .returned (.bool (globM pat s)) ∧ Below w.heap.size w w' := by
  have hf := foldR_len pat
  have hl := split_len (foldR pat)
  have he : ∀ p, p ∈ splitL (foldR pat) → p.length ≤ 9000000000000 := fun p hm => by have := split_each (foldR pat) p hm; omega
  refine match81 pat s hp hs (splitL (foldR pat)) ?_ (by omega) (rdL_len _ _ he) (rdL_len _ _ (fun p hm => he p (List.mem_of_mem_take (List.mem_of_mem_drop hm)))) ?_ w
  · have := split_ne (foldR pat)
    cases h : splitL (foldR pat) with
    | nil => exact absurd h this
    | cons a b => simp
  · intro A0 c0 w hv
    obtain ⟨r, ⟨k, hk⟩, hr⟩ := parts_tot (foldR pat).length (foldR pat) [] (Nat.le_refl _) (by simp; omega)
    rw [List.nil_append] at hr
    subst hr
    exact glob_parts.calls k (fun _ => True) A0 c0 (foldR pat) _ w hv (hk k (Nat.le_refl _))
end Go.Proofs.Ytdedmhmomoejkaa.X
namespace Go.Proofs.Ytdedmhmomoejkaa.X
open Go.RowKit Go.Proofs.YtdedmhmomoejkaaW.PrintWords Go.Proofs.YtdedmhmomoejkaaW.PrintLast
set_option linter.unusedVariables false
set_option linter.unusedSimpArgs false
def anyS (f : List Int → Bool) : List Int → Bool
  | [] => f []
  | d :: r => f (d :: r) || anyS f r
theorem anyS_iff (f : List Int → Bool) : ∀ (t : List Int), anyS f t = true ↔ ∃ k, k ≤ t.length ∧ f (t.drop k) = true
  | [] => by
    rw [anyS]
    exact ⟨fun h => ⟨0, Nat.le_refl _, h⟩, fun ⟨k, _, h⟩ => by simpa using h⟩
  | d :: r => by
    rw [anyS, Bool.or_eq_true, anyS_iff f r]
    constructor
    · rintro (h | ⟨k, hk, h⟩)
      · exact ⟨0, Nat.zero_le _, h⟩
      · exact ⟨k + 1, by simp; omega, h⟩
    · rintro ⟨k, hk, h⟩
      cases k with
      | zero => exact .inl h
      | succ k => exact .inr ⟨k, by simp at hk; omega, h⟩
def wild : List Int → List Int → Bool
  | [], t => t.isEmpty
  | c :: p, t => if 37 = c then anyS (wild p) t else match t with
    | [] => false
    | d :: t => (c == 95 || c == d) && wild p t
theorem wild_nil (t : List Int) : wild [] t = t.isEmpty := by rw [wild.eq_def]
theorem wild_many (p t : List Int) : wild (37 :: p) t = anyS (wild p) t := by rw [wild.eq_def]; exact if_pos rfl
theorem wild_none (c : Int) (p : List Int) (h : ¬ 37 = c) : wild (c :: p) [] = false := by rw [wild.eq_def]; exact if_neg h
theorem wild_one (c : Int) (p : List Int) (d : Int) (t : List Int) (h : ¬ 37 = c) : wild (c :: p) (d :: t) = ((c == 95 || c == d) && wild p t) := by rw [wild.eq_def]; exact if_neg h
def wildP : List (List Int) → List Int → Bool
  | [], t => t.isEmpty
  | [h], t => h.length == t.length && atB h t
  | h :: g :: r, t => atB h t && anyS (wildP (g :: r)) (t.drop h.length)
theorem wild_parts : ∀ (p t : List Int), wild p t = wildP (splitL p) t
  | [], t => by
    rw [wild_nil]
    show t.isEmpty = (([] : List Int).length == t.length && atB [] t)
    cases t <;> simp [atB]
  | c :: p, t => by
    have ih := wild_parts p
    rw [splitL]
    by_cases h : 37 = c
    · subst h
      rw [if_pos rfl, wild_many]
      have hf : wild p = wildP (splitL p) := funext ih
      rw [hf]
      cases hs : splitL p with
      | nil => exact absurd hs (split_ne p)
      | cons g r => rw [wildP]; cases t <;> simp [atB]
    · rw [if_neg h]
      cases hs : splitL p with
      | nil => exact absurd hs (split_ne p)
      | cons g r =>
        cases t with
        | nil => rw [wild_none c p h]; cases r <;> simp [wildP, atB]
        | cons d t =>
          rw [wild_one c p d t h, ih t, hs]
          cases r with
          | nil =>
            rw [wildP, wildP, atB]
            simp only [List.length_cons]
            rw [show (g.length + 1 == t.length + 1) = (g.length == t.length) by simp]
            cases (c == 95 || c == d) <;> simp
          | cons a b =>
            rw [wildP, wildP, atB]
            simp only [List.length_cons, List.drop_succ_cons, Bool.and_assoc]
theorem atB_take : ∀ (p s : List Int) (j : Nat), p.length ≤ j → atB p (s.take j) = atB p s
  | [], s, j, _ => by cases s <;> cases j <;> rfl
  | c :: p, [], j, _ => by simp
  | c :: p, d :: s, 0, h => by simp at h
  | c :: p, d :: s, j + 1, h => by
    rw [List.take_succ_cons, atB, atB, atB_take p s j (by simpa using h)]
theorem findI_at (p : List Int) : ∀ (s : List Int), 0 ≤ findI p s → atB p (s.drop (findI p s).toNat) = true
  | [], h => by
    rw [findI] at h ⊢
    split at h
    · rename_i g; rw [if_pos g]; exact g
    · omega
  | d :: s, h => by
    rw [findI] at h ⊢
    by_cases g : atB p (d :: s) = true
    · rw [if_pos g]; exact g
    · rw [if_neg g] at h ⊢
      by_cases g2 : findI p s < 0
      · rw [if_pos g2] at h; omega
      · rw [if_neg g2] at h ⊢
        have := findI_at p s (by omega)
        rw [show (findI p s + 1).toNat = (findI p s).toNat + 1 by omega, List.drop_succ_cons]
        exact this
theorem findI_first (p : List Int) : ∀ (s : List Int) (k : Nat), k ≤ s.length → atB p (s.drop k) = true → 0 ≤ findI p s ∧ findI p s ≤ k
  | [], k, hk, h => by
    rw [findI, if_pos (by simpa using h)]; omega
  | d :: s, k, hk, h => by
    rw [findI]
    by_cases g : atB p (d :: s) = true
    · rw [if_pos g]; omega
    · rw [if_neg g]
      cases k with
      | zero => exact absurd h g
      | succ k =>
        have := findI_first p s k (by simpa using hk) h
        rw [if_neg (by omega)]; omega
theorem midL_mono : ∀ (ms : List (List Int)) (x : List Int) (n : Nat), midL ms (x.drop n) = true → midL ms x = true
  | [], _, _, _ => rfl
  | m :: ms, x, n, h => by
    rw [midL] at h ⊢
    by_cases g : findI m (x.drop n) < 0
    · rw [if_pos g] at h; cases h
    · rw [if_neg g] at h
      have ha := findI_at m (x.drop n) (by omega)
      rcases findI_bound m (x.drop n) with hb | hb
      · omega
      · rw [List.drop_drop] at ha
        rw [List.length_drop] at hb
        by_cases hn : n ≤ x.length
        · have hf := findI_first m x (n + (findI m (x.drop n)).toNat) (by omega) ha
          rw [if_neg (by omega)]
          rw [List.drop_drop] at h
          refine midL_mono ms _ (n + (findI m (x.drop n) + m.length).toNat - (findI m x + m.length).toNat) ?_
          rw [List.drop_drop]
          rw [show (findI m x + (m.length : Int)).toNat + (n + (findI m (x.drop n) + m.length).toNat - (findI m x + m.length).toNat) = n + (findI m (x.drop n) + m.length).toNat by omega]
          exact h
        · have hx : x.drop n = [] := List.drop_of_length_le (by omega)
          rw [hx] at g hb h ha
          have hm0 : m.length = 0 := by omega
          have hm : m = [] := List.length_eq_zero_iff.1 hm0
          subst hm
          have hf : findI [] x = 0 := by cases x <;> simp [findI, atB]
          rw [hf, if_neg (by omega)]
          refine midL_mono ms _ x.length ?_
          rw [List.drop_drop, List.drop_of_length_le (by omega)]
          rw [List.drop_nil] at h
          exact h
theorem wild_mids (z : List Int) : ∀ (ms : List (List Int)) (s : List Int), anyS (wildP (ms ++ [z])) s = true ↔ z.length ≤ s.length ∧ atB z (s.drop (s.length - z.length)) = true ∧ midL ms (s.take (s.length - z.length)) = true
  | [], s => by
    rw [anyS_iff]
    simp only [List.nil_append, wildP, Bool.and_eq_true, beq_iff_eq, List.length_drop, midL, and_true]
    constructor
    · rintro ⟨k, hk, h1, h2⟩
      refine ⟨by omega, ?_⟩
      rw [show s.length - z.length = k by omega]; exact h2
    · rintro ⟨h1, h2⟩
      exact ⟨s.length - z.length, by omega, by omega, h2⟩
  | m :: ms, s => by
    rw [anyS_iff]
    have hw : ∀ t, wildP (m :: ms ++ [z]) t = (atB m t && anyS (wildP (ms ++ [z])) (t.drop m.length)) := by
      intro t
      cases ms with
      | nil => rfl
      | cons a b => rfl
    simp only [hw, Bool.and_eq_true, wild_mids z ms, List.length_drop, List.drop_drop]
    rw [midL]
    generalize hu : s.take (s.length - z.length) = u
    have hul : u.length = s.length - z.length := by rw [← hu, List.length_take]; omega
    have hdt : ∀ n, u.drop n = (s.drop n).take (s.length - z.length - n) := by intro n; rw [← hu, List.drop_take]
    constructor
    · rintro ⟨k, hk, h1, h2, h3, h4⟩
      by_cases hkm : k + m.length ≤ s.length
      · have hz : z.length ≤ s.length := by omega
        rw [show k + m.length + (s.length - (k + m.length) - z.length) = s.length - z.length by omega] at h3
        refine ⟨hz, h3, ?_⟩
        have hau : atB m (u.drop k) = true := by rw [hdt, atB_take _ _ _ (by omega)]; exact h1
        have hf := findI_first m u k (by omega) hau
        rw [if_neg (by omega)]
        refine midL_mono ms _ (k + m.length - (findI m u + m.length).toNat) ?_
        rw [List.drop_drop, show (findI m u + (m.length : Int)).toNat + (k + m.length - (findI m u + m.length).toNat) = k + m.length by omega, hdt]
        rw [show s.length - z.length - (k + m.length) = s.length - (k + m.length) - z.length by omega]
        exact h4
      · rw [atB_short m _ (by rw [List.length_drop]; omega)] at h1
        cases h1
    · rintro ⟨hz, h3, h4⟩
      by_cases g : findI m u < 0
      · rw [if_pos g] at h4; cases h4
      · rw [if_neg g] at h4
        have ha := findI_at m u (by omega)
        rcases findI_bound m u with hb | hb
        · omega
        · refine ⟨(findI m u).toNat, by omega, ?_, by omega, ?_, ?_⟩
          · rw [hdt, atB_take _ _ _ (by omega)] at ha; exact ha
          · rw [show (findI m u).toNat + m.length + (s.length - ((findI m u).toNat + m.length) - z.length) = s.length - z.length by omega]; exact h3
          · rw [hdt, show (findI m u + (m.length : Int)).toNat = (findI m u).toNat + m.length by omega] at h4
            rw [show s.length - ((findI m u).toNat + m.length) - z.length = s.length - z.length - ((findI m u).toNat + m.length) by omega]
            exact h4
theorem rdL_get (l : List (List Int)) (i : Nat) (h : i < l.length) : rd_L10 l (i : Int) = l[i] := by
  simp only [rd_L10, Int.toNat_natCast, List.getD_eq_getElem?_getD, List.getElem?_eq_getElem h, Option.getD_some]
theorem match_parts (l : List (List Int)) (hl : l ≠ []) (t : List Int) : matchL l t = wildP l t := by
  match l, hl with
  | [h], _ => unfold matchL; exact if_pos (show ([h] : List (List Int)).length = 1 by rfl)
  | h :: g :: r, _ =>
    obtain ⟨ms, z, hr⟩ : ∃ ms z, g :: r = ms ++ [z] := ⟨(g :: r).dropLast, (g :: r).getLast (by simp), (List.dropLast_concat_getLast (by simp)).symm⟩
    have hlen : (h :: g :: r).length = ms.length + 2 := by rw [hr]; simp
    have e0 : rd_L10 (h :: g :: r) 0 = h := rfl
    have e1 : rd_L10 (h :: g :: r) (((h :: g :: r).length : Int) - 1) = z := by
      rw [show (((h :: g :: r).length : Int) - 1) = ((ms.length + 1 : Nat) : Int) by omega, rdL_get _ _ (by omega)]
      simp [hr]
    have e2 : (((h :: g :: r).take ((h :: g :: r).length - 1)).drop 1) = ms := by
      rw [hlen, hr]; simp
    unfold matchL
    rw [e1, e0, e2, if_neg (by omega)]
    rw [wildP, hr]
    rw [Bool.eq_iff_iff, Bool.and_eq_true, wild_mids]
    simp only [List.length_drop, List.drop_drop]
    have hdt : (t.take (t.length - z.length)).drop h.length = (t.drop h.length).take (t.length - h.length - z.length) := by
      rw [List.drop_take]; congr 1; omega
    rw [hdt]
    by_cases c1 : t.length < h.length + z.length
    · rw [if_pos c1]
      constructor
      · intro h'; cases h'
      · rintro ⟨a1, a2, a3, a4⟩
        by_cases hs : t.length < h.length
        · rw [atB_short h t hs] at a1; cases a1
        · omega
    · rw [if_neg c1]
      by_cases c2 : atB h t = false
      · rw [if_pos c2, c2]; simp
      · rw [if_neg c2]
        have c2' : atB h t = true := by simpa using c2
        rw [show h.length + (t.length - h.length - z.length) = t.length - z.length by omega]
        by_cases c3 : atB z (t.drop (t.length - z.length)) = false
        · rw [if_pos c3, c3]; simp
        · rw [if_neg c3]
          have c3' : atB z (t.drop (t.length - z.length)) = true := by simpa using c3
          constructor
          · intro h4; exact ⟨c2', by omega, c3', h4⟩
          · rintro ⟨_, _, _, h4⟩; exact h4
theorem globM_wild (pat s : ByteArray) : globM pat s = wild (foldR pat) (foldR s) := by
  rw [globM, match_parts _ (split_ne _), wild_parts]
end Go.Proofs.Ytdedmhmomoejkaa.X
namespace Go.Proofs.Ytdedmhmomoejkaa.X
open Go.RowKit Go.Proofs.YtdedmhmomoejkaaW.PrintWords Go.Proofs.YtdedmhmomoejkaaW.PrintLast Go.Proofs.YtdedmhmomoejkaaW.PrintMore
attribute [local go_sem] max2_int max_two
set_option linter.unusedVariables false
set_option linter.unusedSimpArgs false
def firkinref15_Fold.f (a0 : ByteArray) : Option (List Int) := if a0.size ≤ 4398046511104 then some (foldR a0) else none
set_option maxHeartbeats 8000000 in
set_option maxRecDepth 100000 in
theorem firkinref15_Fold.calls (a0 : ByteArray) (r : List Int) (w : World) (h : firkinref15_Fold.f a0 = some r) :
    Calls Try.prog 59 #[.string a0] w fun e w' => ∃ v0_ : Value, e = .returned (v0_) ∧ Kd.R (Kd.int .i32) 21 w' w.heap.size (fun _ => True) v0_ r ∧ Below w.heap.size w w' := by
  unfold firkinref15_Fold.f at h
  by_cases hk : a0.size ≤ 4398046511104
  · rw [if_pos hk] at h
    obtain rfl := Option.some.inj h
    exact fold15 a0 hk w
  · rw [if_neg hk] at h
    exact absurd h (by simp)
end Go.Proofs.Ytdedmhmomoejkaa.X
