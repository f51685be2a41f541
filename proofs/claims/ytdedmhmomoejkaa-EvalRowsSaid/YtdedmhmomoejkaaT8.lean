/- Words and walks for evalRows_holds, part 8 of the texts that a program of this session laid together. -/
import Derived.Test.YtdedmhmomoejkaaT2
import Derived.Test.YtdedmhmomoejkaaT4
import Derived.Test.YtdedmhmomoejkaaT7
namespace Go.Proofs.Ytdedmhmomoejkaa.X
open Go.RowKit Go.Proofs.YtdedmhmomoejkaaW.PrintWords Go.Proofs.YtdedmhmomoejkaaW.PrintLast Go.Proofs.YtdedmhmomoejkaaW.PrintMore
attribute [local go_sem] max2_int max_two
set_option linter.unusedVariables false
set_option linter.unusedSimpArgs false
mutual
def firkinref12_Check.l0 : Nat → List (S64) → Int → Option (Int)
 | 0, _, _ => none
 | k + 1, x0, x3 => if x3 < (x0.length : Int) then (if 0 ≤ x3 then ((firkinref12_Name.f k ((rd_T64 x0 x3).f0)).bind fun t281 => (if t281 = true then (if ((rd_T64 x0 x3).f1) < 1 then (firkinref12_Check.j1 k x0 x3 true) else (firkinref12_Check.j1 k x0 x3 (decide (((rd_T64 x0 x3).f1) > 3)))) else (firkinref12_Check.j1 k x0 x3 true))) else (none)) else (if (x0.length : Int) = 0 then (some 1) else (if (x0.length : Int) > 6 then (some 4) else (some 0)))
def firkinref12_Check.j1 : Nat → List (S64) → Int → Bool → Option (Int)
 | 0, _, _, _ => none
 | k + 1, x0, x3, x33 => if x33 = true then (some 1) else (firkinref12_Check.l1 k x0 x3 0)
def firkinref12_Check.l1 : Nat → List (S64) → Int → Int → Option (Int)
 | 0, _, _, _ => none
 | k + 1, x0, x3, x4 => if x4 < x3 then (if 0 ≤ x4 then (if x4 < (x0.length : Int) then (if 0 ≤ x3 then (if x3 < (x0.length : Int) then (if ((rd_T64 x0 x4).f0).toList = ((rd_T64 x0 x3).f0).toList then (some 1) else (firkinref12_Check.l1 k x0 x3 (wrap64 (x4 + 1)))) else (none)) else (none)) else (none)) else (none)) else (firkinref12_Check.l0 k x0 (wrap64 (x3 + 1)))
end
def firkinref12_Check.f (k : Nat) (l0 : List (S64)) : Option (Int) := firkinref12_Check.l0 k l0 0
theorem firkinref12_Check.mono_l : ∀ k, (∀ y0 y1, LeO (firkinref12_Check.l0 k y0 y1) (firkinref12_Check.l0 (k + 1) y0 y1)) ∧ (∀ y0 y1 y2, LeO (firkinref12_Check.j1 k y0 y1 y2) (firkinref12_Check.j1 (k + 1) y0 y1 y2)) ∧ (∀ y0 y1 y2, LeO (firkinref12_Check.l1 k y0 y1 y2) (firkinref12_Check.l1 (k + 1) y0 y1 y2))
 | 0 => ⟨fun _ _ r h => by simp [firkinref12_Check.l0] at h, fun _ _ _ r h => by simp [firkinref12_Check.j1] at h, fun _ _ _ r h => by simp [firkinref12_Check.l1] at h⟩
 | k + 1 => by
  obtain ⟨ih0, ih1, ih2⟩ := firkinref12_Check.mono_l k
  refine ⟨?_, ?_, ?_⟩
  ·intro y0 y1
   unfold firkinref12_Check.l0
   repeat' first
   | (with_reducible exact ih0 _ _)
   | (with_reducible exact ih1 _ _ _)
   | (with_reducible exact ih2 _ _ _)
   | (with_reducible exact firkinref12_Name.mono _ _)
   | (with_reducible exact LeO.refl _)
   | (with_reducible exact LeO.none _)
   | (with_reducible refine LeO.ite ?_ ?_)
   | (with_reducible refine LeO.bind ?_ (fun _ => ?_))
   | exact ih0 _ _
   | exact ih1 _ _ _
   | exact ih2 _ _ _
   | exact firkinref12_Name.mono _ _
   | exact LeO.none _
   | refine LeO.ite ?_ ?_
   | refine LeO.bind ?_ (fun _ => ?_)
  ·intro y0 y1 y2
   unfold firkinref12_Check.j1
   repeat' first
   | (with_reducible exact ih0 _ _)
   | (with_reducible exact ih1 _ _ _)
   | (with_reducible exact ih2 _ _ _)
   | (with_reducible exact firkinref12_Name.mono _ _)
   | (with_reducible exact LeO.refl _)
   | (with_reducible exact LeO.none _)
   | (with_reducible refine LeO.ite ?_ ?_)
   | (with_reducible refine LeO.bind ?_ (fun _ => ?_))
   | exact ih0 _ _
   | exact ih1 _ _ _
   | exact ih2 _ _ _
   | exact firkinref12_Name.mono _ _
   | exact LeO.none _
   | refine LeO.ite ?_ ?_
   | refine LeO.bind ?_ (fun _ => ?_)
  ·intro y0 y1 y2
   unfold firkinref12_Check.l1
   repeat' first
   | (with_reducible exact ih0 _ _)
   | (with_reducible exact ih1 _ _ _)
   | (with_reducible exact ih2 _ _ _)
   | (with_reducible exact firkinref12_Name.mono _ _)
   | (with_reducible exact LeO.refl _)
   | (with_reducible exact LeO.none _)
   | (with_reducible refine LeO.ite ?_ ?_)
   | (with_reducible refine LeO.bind ?_ (fun _ => ?_))
   | exact ih0 _ _
   | exact ih1 _ _ _
   | exact ih2 _ _ _
   | exact firkinref12_Name.mono _ _
   | exact LeO.none _
   | refine LeO.ite ?_ ?_
   | refine LeO.bind ?_ (fun _ => ?_)
theorem firkinref12_Check.mono : ∀ a0 k, LeO (firkinref12_Check.f k a0) (firkinref12_Check.f (k + 1) a0) := by
 intro a0 k
 obtain ⟨ih0, ih1, ih2⟩ := firkinref12_Check.mono_l k
 unfold firkinref12_Check.f
 repeat' first
   | (with_reducible exact ih0 _ _)
   | (with_reducible exact ih1 _ _ _)
   | (with_reducible exact ih2 _ _ _)
   | (with_reducible exact firkinref12_Name.mono _ _)
   | (with_reducible exact LeO.refl _)
   | (with_reducible exact LeO.none _)
   | (with_reducible refine LeO.ite ?_ ?_)
   | (with_reducible refine LeO.bind ?_ (fun _ => ?_))
   | exact ih0 _ _
   | exact ih1 _ _ _
   | exact ih2 _ _ _
   | exact firkinref12_Name.mono _ _
   | exact LeO.none _
   | refine LeO.ite ?_ ?_
   | refine LeO.bind ?_ (fun _ => ?_)
set_option maxHeartbeats 8000000 in
set_option maxRecDepth 100000 in
theorem firkinref12_Check.calls (k : Nat) (A0 : Option Addr) (c0 : Nat) (l0 : List (S64)) (r : Int) (w : World) (hr0 : Kd.C k64 w A0 l0.length l0) (hc0 : l0.length ≤ c0) (h : firkinref12_Check.f k l0 = some r) :
  Calls Try.prog 55 #[.slice A0 l0.length c0] w fun e w' => e = .returned (.int .i64 r) ∧ Below w.heap.size w w' := by
 have HR0 := Aside0.mk hr0
 have HC0 := Aside0.mk hc0
 clear hr0 hc0
 have HB := Aside0.mk (Below.refl w.heap.size w)
 have H : (firkinref12_Check.l0 k l0 0) = some r := h
 clear h
 have H' := Aside0.mk H
 clear H
 go_enter Try.func55, Try.ntmps55
 go_wp2
 repeat (go_quiet (fail); try go_wp2)
 go_loopg [3] k (fun kq v3 w' => ∃ (x3_1 : Int), v3 = .int .i64 x3_1 ∧ Aside0 (firkinref12_Check.l0 kq l0 x3_1 = some r) ∧ Aside0 (kq ≤ k) ∧ Aside0 (Below w.heap.size w w'))
 case atStart => exact ⟨_, (by first | rfl | (simp; done) | (simp [*]; done)), H', ⟨Nat.le_refl _⟩, ⟨by repeat (first | (with_reducible first | exact HB.out | apply below_alloc | apply pw_below_drewN | apply below_drew1) | exact HB.out)⟩⟩
 case round =>
  clear H'
  obtain ⟨x3_1, rfl, HA, HK1, HB⟩ := hrel
  cases gk with
  | zero => exact absurd HA.out (by simp [firkinref12_Check.l0])
  | succ k1 =>
   have H := HA.out
   clear HA
   simp only [firkinref12_Check.l0] at H
   by_cases c2 : x3_1 < (l0.length : Int)
   ·rw [if_pos c2] at H
    have c2b0 : decide (x3_1 < (l0.length : Int)) = true := decide_eq_true c2
    clear c2
    have HC3 := Aside0.mk H
    clear H
    go_upto_region 4 with (fail)
    repeat (go_quiet (fail); go_upto_region 4 with (fail))
    go_cut [33] (fun v33 wc => ∃ (kq : Nat) (x33_2 : Bool), v33 = .bool x33_2 ∧ Aside0 (firkinref12_Check.j1 kq l0 x3_1 x33_2 = some r) ∧ Aside0 (kq ≤ k1) ∧ Aside0 (Below w.heap.size w wc))
    case first =>
     have H := HC3.out
     clear HC3
     by_cases c4 : 0 ≤ x3_1
     ·rw [if_pos c4] at H
      have c4b0 : decide (0 ≤ x3_1) = true := decide_eq_true c4
      clear c4
      (first | rw [c4b0] | (simp only [i64_w, i32_w]; rw [c4b0]) | skip)
      replace H := Option.bind_eq_some_iff.mp H
      obtain ⟨t281, A50, H⟩ := H
      replace H : (if t281 = true then (if ((rd_T64 l0 x3_1).f1) < 1 then (firkinref12_Check.j1 k1 l0 x3_1 true) else (firkinref12_Check.j1 k1 l0 x3_1 (decide (((rd_T64 l0 x3_1).f1) > 3)))) else (firkinref12_Check.j1 k1 l0 x3_1 true)) = some r := H
      have A5 := Aside0.mk A50
      clear A50
      by_cases c6 : t281 = true
      rotate_left
      focus
       replace c6 := Bool.eq_false_iff.mpr c6
       subst c6
       have H1 : (firkinref12_Check.j1 k1 l0 x3_1 true) = some r := by rw [if_neg (show ¬ (false = true) by decide)] at H; exact H
       clear H
       have H := H1
       clear H1
       have H' := Aside0.mk H
       clear H
       have p280 : 0 ≤ (x3_1 : Int) := dt_
       have q280 : x3_1 < (l0.length : Int) := dt_
       obtain ⟨ad280, e280, hx280_0, hx280_1, hx280_2⟩ := at_T64 HR0.out x3_1 p280 q280
       cases e280
       replace hx280_0 := hc_ HB hx280_0
       replace hx280_1 := hc_ HB hx280_1
       replace hx280_2 := hc_ HB hx280_2
       replace p280 := eq_true p280
       replace q280 := eq_true q280
       go_wp2_with (first | (go_at_call 79; (with_reducible refine (firkinref12_Name.calls k1 ((rd_T64 l0 x3_1).f0) false _ A5.out).mono ?_); rintro e w10 ⟨rfl, hb⟩;  replace HB := bs_ HB hb; (try clear hb)))
       repeat (go_quiet (first | (go_at_call 79; (with_reducible refine (firkinref12_Name.calls k1 ((rd_T64 l0 x3_1).f0) false _ A5.out).mono ?_); rintro e w10 ⟨rfl, hb⟩;  replace HB := bs_ HB hb; (try clear hb))); try go_wp2_with (first | (go_at_call 79; (with_reducible refine (firkinref12_Name.calls k1 ((rd_T64 l0 x3_1).f0) false _ A5.out).mono ?_); rintro e w10 ⟨rfl, hb⟩;  replace HB := bs_ HB hb; (try clear hb))))
      rotate_right
      focus
       subst c6
       have H1 : (if ((rd_T64 l0 x3_1).f1) < 1 then (firkinref12_Check.j1 k1 l0 x3_1 true) else (firkinref12_Check.j1 k1 l0 x3_1 (decide (((rd_T64 l0 x3_1).f1) > 3)))) = some r := by rw [if_pos rfl] at H; exact H
       clear H
       have H := H1
       clear H1
       by_cases c7 : ((rd_T64 l0 x3_1).f1) < 1
       rotate_left
       focus
        rw [if_neg c7] at H
        have c7b0 : decide (((rd_T64 l0 x3_1).f1) < 1) = false := decide_eq_false c7
        clear c7
        have H' := Aside0.mk H
        clear H
        have p280 : 0 ≤ (x3_1 : Int) := dt_
        have q280 : x3_1 < (l0.length : Int) := dt_
        obtain ⟨ad280, e280, hx280_0, hx280_1, hx280_2⟩ := at_T64 HR0.out x3_1 p280 q280
        cases e280
        replace hx280_0 := hc_ HB hx280_0
        replace hx280_1 := hc_ HB hx280_1
        replace hx280_2 := hc_ HB hx280_2
        replace p280 := eq_true p280
        replace q280 := eq_true q280
        go_wp2_with (first | (go_at_call 79; (with_reducible refine (firkinref12_Name.calls k1 ((rd_T64 l0 x3_1).f0) true _ A5.out).mono ?_); rintro e w9 ⟨rfl, hb⟩;  replace HB := bs_ HB hb; (try clear hb); have p282 : 0 ≤ (x3_1 : Int) := dt_; have q282 : x3_1 < (l0.length : Int) := dt_; obtain ⟨ad282, e282, hx282_0, hx282_1, hx282_2⟩ := at_T64 HR0.out x3_1 p282 q282; obtain rfl : ad280 = ad282 := (by injection e282); replace hx282_0 := hc_ HB hx282_0; replace hx282_1 := hc_ HB hx282_1; replace hx282_2 := hc_ HB hx282_2; replace p282 := eq_true p282; replace q282 := eq_true q282; have p283 : 0 ≤ (x3_1 : Int) := dt_; have q283 : x3_1 < (l0.length : Int) := dt_; obtain ⟨ad283, e283, hx283_0, hx283_1, hx283_2⟩ := at_T64 HR0.out x3_1 p283 q283; obtain rfl : ad280 = ad283 := (by injection e283); replace hx283_0 := hc_ HB hx283_0; replace hx283_1 := hc_ HB hx283_1; replace hx283_2 := hc_ HB hx283_2; replace p283 := eq_true p283; replace q283 := eq_true q283))
        repeat (go_quiet (first | (go_at_call 79; (with_reducible refine (firkinref12_Name.calls k1 ((rd_T64 l0 x3_1).f0) true _ A5.out).mono ?_); rintro e w9 ⟨rfl, hb⟩;  replace HB := bs_ HB hb; (try clear hb); have p282 : 0 ≤ (x3_1 : Int) := dt_; have q282 : x3_1 < (l0.length : Int) := dt_; obtain ⟨ad282, e282, hx282_0, hx282_1, hx282_2⟩ := at_T64 HR0.out x3_1 p282 q282; obtain rfl : ad280 = ad282 := (by injection e282); replace hx282_0 := hc_ HB hx282_0; replace hx282_1 := hc_ HB hx282_1; replace hx282_2 := hc_ HB hx282_2; replace p282 := eq_true p282; replace q282 := eq_true q282; have p283 : 0 ≤ (x3_1 : Int) := dt_; have q283 : x3_1 < (l0.length : Int) := dt_; obtain ⟨ad283, e283, hx283_0, hx283_1, hx283_2⟩ := at_T64 HR0.out x3_1 p283 q283; obtain rfl : ad280 = ad283 := (by injection e283); replace hx283_0 := hc_ HB hx283_0; replace hx283_1 := hc_ HB hx283_1; replace hx283_2 := hc_ HB hx283_2; replace p283 := eq_true p283; replace q283 := eq_true q283)); try go_wp2_with (first | (go_at_call 79; (with_reducible refine (firkinref12_Name.calls k1 ((rd_T64 l0 x3_1).f0) true _ A5.out).mono ?_); rintro e w9 ⟨rfl, hb⟩;  replace HB := bs_ HB hb; (try clear hb); have p282 : 0 ≤ (x3_1 : Int) := dt_; have q282 : x3_1 < (l0.length : Int) := dt_; obtain ⟨ad282, e282, hx282_0, hx282_1, hx282_2⟩ := at_T64 HR0.out x3_1 p282 q282; obtain rfl : ad280 = ad282 := (by injection e282); replace hx282_0 := hc_ HB hx282_0; replace hx282_1 := hc_ HB hx282_1; replace hx282_2 := hc_ HB hx282_2; replace p282 := eq_true p282; replace q282 := eq_true q282; have p283 : 0 ≤ (x3_1 : Int) := dt_; have q283 : x3_1 < (l0.length : Int) := dt_; obtain ⟨ad283, e283, hx283_0, hx283_1, hx283_2⟩ := at_T64 HR0.out x3_1 p283 q283; obtain rfl : ad280 = ad283 := (by injection e283); replace hx283_0 := hc_ HB hx283_0; replace hx283_1 := hc_ HB hx283_1; replace hx283_2 := hc_ HB hx283_2; replace p283 := eq_true p283; replace q283 := eq_true q283)))
       rotate_right
       focus
        rw [if_pos c7] at H
        have c7b0 : decide (((rd_T64 l0 x3_1).f1) < 1) = true := decide_eq_true c7
        clear c7
        have H' := Aside0.mk H
        clear H
        have p280 : 0 ≤ (x3_1 : Int) := dt_
        have q280 : x3_1 < (l0.length : Int) := dt_
        obtain ⟨ad280, e280, hx280_0, hx280_1, hx280_2⟩ := at_T64 HR0.out x3_1 p280 q280
        cases e280
        replace hx280_0 := hc_ HB hx280_0
        replace hx280_1 := hc_ HB hx280_1
        replace hx280_2 := hc_ HB hx280_2
        replace p280 := eq_true p280
        replace q280 := eq_true q280
        go_wp2_with (first | (go_at_call 79; (with_reducible refine (firkinref12_Name.calls k1 ((rd_T64 l0 x3_1).f0) true _ A5.out).mono ?_); rintro e w8 ⟨rfl, hb⟩;  replace HB := bs_ HB hb; (try clear hb); have p282 : 0 ≤ (x3_1 : Int) := dt_; have q282 : x3_1 < (l0.length : Int) := dt_; obtain ⟨ad282, e282, hx282_0, hx282_1, hx282_2⟩ := at_T64 HR0.out x3_1 p282 q282; obtain rfl : ad280 = ad282 := (by injection e282); replace hx282_0 := hc_ HB hx282_0; replace hx282_1 := hc_ HB hx282_1; replace hx282_2 := hc_ HB hx282_2; replace p282 := eq_true p282; replace q282 := eq_true q282))
        repeat (go_quiet (first | (go_at_call 79; (with_reducible refine (firkinref12_Name.calls k1 ((rd_T64 l0 x3_1).f0) true _ A5.out).mono ?_); rintro e w8 ⟨rfl, hb⟩;  replace HB := bs_ HB hb; (try clear hb); have p282 : 0 ≤ (x3_1 : Int) := dt_; have q282 : x3_1 < (l0.length : Int) := dt_; obtain ⟨ad282, e282, hx282_0, hx282_1, hx282_2⟩ := at_T64 HR0.out x3_1 p282 q282; obtain rfl : ad280 = ad282 := (by injection e282); replace hx282_0 := hc_ HB hx282_0; replace hx282_1 := hc_ HB hx282_1; replace hx282_2 := hc_ HB hx282_2; replace p282 := eq_true p282; replace q282 := eq_true q282)); try go_wp2_with (first | (go_at_call 79; (with_reducible refine (firkinref12_Name.calls k1 ((rd_T64 l0 x3_1).f0) true _ A5.out).mono ?_); rintro e w8 ⟨rfl, hb⟩;  replace HB := bs_ HB hb; (try clear hb); have p282 : 0 ≤ (x3_1 : Int) := dt_; have q282 : x3_1 < (l0.length : Int) := dt_; obtain ⟨ad282, e282, hx282_0, hx282_1, hx282_2⟩ := at_T64 HR0.out x3_1 p282 q282; obtain rfl : ad280 = ad282 := (by injection e282); replace hx282_0 := hc_ HB hx282_0; replace hx282_1 := hc_ HB hx282_1; replace hx282_2 := hc_ HB hx282_2; replace p282 := eq_true p282; replace q282 := eq_true q282)))
      all_goals
       go_meet
       case rel => exact ⟨_, _, (by first | rfl | (simp; done) | (simp [*]; done)), H', ⟨by have := HK1.out; first | omega | exact Nat.le_refl _⟩, ⟨by repeat (first | (with_reducible first | exact HB.out | apply below_alloc | apply pw_below_drewN | apply below_drew1) | exact HB.out)⟩⟩
     ·rw [if_neg c4] at H
      exact absurd H (by simp)
    case rest =>
     clear HC3
     try clear c2
     try clear c2b0
     try clear p2
     try clear q2
     try clear hx2
     try clear c4
     try clear c4b0
     try clear c5
     try clear c6
     try clear c7
     try clear c7b0
     try clear hx280_0
     try clear hx280_1
     try clear hx280_2
     try clear hx282_0
     try clear hx282_1
     try clear hx282_2
     try clear hx283_0
     try clear hx283_1
     try clear hx283_2
     try clear p280
     try clear p282
     try clear p283
     try clear q280
     try clear q282
     try clear q283
     obtain ⟨kq, x33_2, rfl, HA, HJ2, HB⟩ := hcut
     cases kq with
     | zero => exact absurd HA.out (by simp [firkinref12_Check.j1])
     | succ kj2 =>
      have H := HA.out
      clear HA
      simp only [firkinref12_Check.j1] at H
      by_cases c11 : x33_2 = true
      ·subst c11
       have H1 : (some 1) = some r := by rw [if_pos rfl] at H; exact H
       clear H
       have H := H1
       clear H1
       obtain rfl := Option.some.inj H
       go_wp2
       repeat (go_quiet (fail); try go_wp2)
       go_ret
       exact en_ HB
      ·replace c11 := Bool.eq_false_iff.mpr c11
       subst c11
       have H1 : (firkinref12_Check.l1 kj2 l0 x3_1 0) = some r := by rw [if_neg (show ¬ (false = true) by decide)] at H; exact H
       clear H
       have H := H1
       clear H1
       have H' := Aside0.mk H
       clear H
       go_wp2
       repeat (go_quiet (fail); try go_wp2)
       go_loopg [4] kj2 (fun kq v4 w' => ∃ (x4_3 : Int), v4 = .int .i64 x4_3 ∧ Aside0 (firkinref12_Check.l1 kq l0 x3_1 x4_3 = some r) ∧ Aside0 (kq ≤ kj2) ∧ Aside0 (Below w.heap.size w w'))
       case atStart => exact ⟨_, (by first | rfl | (simp; done) | (simp [*]; done)), H', ⟨Nat.le_refl _⟩, ⟨by repeat (first | (with_reducible first | exact HB.out | apply below_alloc | apply pw_below_drewN | apply below_drew1) | exact HB.out)⟩⟩
       case round =>
        clear H'
        try clear c1
        try clear c2
        try clear c2b0
        try clear p2
        try clear q2
        try clear hx2
        try clear c4
        try clear c4b0
        try clear c5
        try clear c6
        try clear c7
        try clear c7b0
        try clear c11
        try clear hx280_0
        try clear hx280_1
        try clear hx280_2
        try clear hx282_0
        try clear hx282_1
        try clear hx282_2
        try clear hx283_0
        try clear hx283_1
        try clear hx283_2
        try clear p2
        try clear p280
        try clear p282
        try clear p283
        try clear q2
        try clear q280
        try clear q282
        try clear q283
        obtain ⟨x4_3, rfl, HA, HK3, HB⟩ := hrel
        cases gk with
        | zero => exact absurd HA.out (by simp [firkinref12_Check.l1])
        | succ k3 =>
         have H := HA.out
         clear HA
         simp only [firkinref12_Check.l1] at H
         by_cases c12 : x4_3 < x3_1
         ·rw [if_pos c12] at H
          have c12b0 : decide (x4_3 < x3_1) = true := decide_eq_true c12
          clear c12
          by_cases c13 : 0 ≤ x4_3
          ·rw [if_pos c13] at H
           have c13b0 : decide (0 ≤ x4_3) = true := decide_eq_true c13
           clear c13
           by_cases c14 : x4_3 < (l0.length : Int)
           ·rw [if_pos c14] at H
            have c14b0 : decide (x4_3 < (l0.length : Int)) = true := decide_eq_true c14
            clear c14
            by_cases c15 : 0 ≤ x3_1
            ·rw [if_pos c15] at H
             have c15b0 : decide (0 ≤ x3_1) = true := decide_eq_true c15
             clear c15
             by_cases c16 : x3_1 < (l0.length : Int)
             ·rw [if_pos c16] at H
              have c16b0 : decide (x3_1 < (l0.length : Int)) = true := decide_eq_true c16
              clear c16
              by_cases c17 : ((rd_T64 l0 x4_3).f0).toList = ((rd_T64 l0 x3_1).f0).toList
              ·rw [if_pos c17] at H
               have c17b0 : (((rd_T64 l0 x4_3).f0).toList == ((rd_T64 l0 x3_1).f0).toList) = true := beq_iff_eq.mpr c17
               have c17b1 : (((rd_T64 l0 x4_3).f0).toList != ((rd_T64 l0 x3_1).f0).toList) = false := bne_eq_false_iff_eq.mpr c17
               clear c17
               obtain rfl := Option.some.inj H
               have p284 : 0 ≤ (x4_3 : Int) := dt_
               have q284 : x4_3 < (l0.length : Int) := dt_
               obtain ⟨ad284, e284, hx284_0, hx284_1, hx284_2⟩ := at_T64 HR0.out x4_3 p284 q284
               cases e284
               replace hx284_0 := hc_ HB hx284_0
               replace hx284_1 := hc_ HB hx284_1
               replace hx284_2 := hc_ HB hx284_2
               replace p284 := eq_true p284
               replace q284 := eq_true q284
               have p285 : 0 ≤ (x3_1 : Int) := dt_
               have q285 : x3_1 < (l0.length : Int) := dt_
               obtain ⟨ad285, e285, hx285_0, hx285_1, hx285_2⟩ := at_T64 HR0.out x3_1 p285 q285
               obtain rfl : ad284 = ad285 := (by injection e285)
               replace hx285_0 := hc_ HB hx285_0
               replace hx285_1 := hc_ HB hx285_1
               replace hx285_2 := hc_ HB hx285_2
               replace p285 := eq_true p285
               replace q285 := eq_true q285
               go_wp2
               repeat (go_quiet (fail); try go_wp2)
               go_ret
               exact en_ HB
              ·rw [if_neg c17] at H
               have c17b0 : (((rd_T64 l0 x4_3).f0).toList == ((rd_T64 l0 x3_1).f0).toList) = false := beq_eq_false_iff_ne.mpr c17
               have c17b1 : (((rd_T64 l0 x4_3).f0).toList != ((rd_T64 l0 x3_1).f0).toList) = true := bne_iff_ne.mpr c17
               have H' := Aside0.mk H
               clear H
               have p284 : 0 ≤ (x4_3 : Int) := dt_
               have q284 : x4_3 < (l0.length : Int) := dt_
               obtain ⟨ad284, e284, hx284_0, hx284_1, hx284_2⟩ := at_T64 HR0.out x4_3 p284 q284
               cases e284
               replace hx284_0 := hc_ HB hx284_0
               replace hx284_1 := hc_ HB hx284_1
               replace hx284_2 := hc_ HB hx284_2
               replace p284 := eq_true p284
               replace q284 := eq_true q284
               have p285 : 0 ≤ (x3_1 : Int) := dt_
               have q285 : x3_1 < (l0.length : Int) := dt_
               obtain ⟨ad285, e285, hx285_0, hx285_1, hx285_2⟩ := at_T64 HR0.out x3_1 p285 q285
               obtain rfl : ad284 = ad285 := (by injection e285)
               replace hx285_0 := hc_ HB hx285_0
               replace hx285_1 := hc_ HB hx285_1
               replace hx285_2 := hc_ HB hx285_2
               replace p285 := eq_true p285
               replace q285 := eq_true q285
               go_wp2
               repeat (go_quiet (fail); try go_wp2)
               go_roundg k3
               case measure => have := HK1.out; have := HJ2.out; have := HK3.out; omega
               case rel => exact ⟨_, (by first | rfl | (simp; done) | (simp [*]; done)), H', ⟨by have := HK1.out; have := HJ2.out; have := HK3.out; omega⟩, ⟨by repeat (first | (with_reducible first | exact HB.out | apply below_alloc | apply pw_below_drewN | apply below_drew1) | exact HB.out)⟩⟩
             ·rw [if_neg c16] at H
              exact absurd H (by simp)
            ·rw [if_neg c15] at H
             exact absurd H (by simp)
           ·rw [if_neg c14] at H
            exact absurd H (by simp)
          ·rw [if_neg c13] at H
           exact absurd H (by simp)
         ·rw [if_neg c12] at H
          have c12b0 : decide (x4_3 < x3_1) = false := decide_eq_false c12
          clear c12
          have H' := Aside0.mk H
          clear H
          go_wp2
          repeat (go_quiet (fail); try go_wp2)
          go_roundg k3
          case measure => have := HK1.out; have := HJ2.out; have := HK3.out; omega
          case rel => exact ⟨_, (by first | rfl | (simp; done) | (simp [*]; done)), H', ⟨by have := HK1.out; have := HJ2.out; have := HK3.out; omega⟩, ⟨by repeat (first | (with_reducible first | exact HB.out | apply below_alloc | apply pw_below_drewN | apply below_drew1) | exact HB.out)⟩⟩
   ·rw [if_neg c2] at H
    have c2b0 : decide (x3_1 < (l0.length : Int)) = false := decide_eq_false c2
    clear c2
    by_cases c18 : (l0.length : Int) = 0
    ·rw [if_pos c18] at H
     have c18b0 : ((l0.length : Int) == 0) = true := beq_iff_eq.mpr c18
     have c18b1 : ((l0.length : Int) != 0) = false := bne_eq_false_iff_eq.mpr c18
     clear c18
     obtain rfl := Option.some.inj H
     go_wp2
     repeat (go_quiet (fail); try go_wp2)
     go_ret
     exact en_ HB
    ·rw [if_neg c18] at H
     have c18b0 : ((l0.length : Int) == 0) = false := beq_eq_false_iff_ne.mpr c18
     have c18b1 : ((l0.length : Int) != 0) = true := bne_iff_ne.mpr c18
     have c18b2 : ¬ (l0 = []) := fun h_ => c18 (by rw [h_]; rfl)
     by_cases c19 : (l0.length : Int) > 6
     ·rw [if_pos c19] at H
      have c19b0 : decide (6 < (l0.length : Int)) = true := decide_eq_true c19
      have c19b1 : decide (6 < l0.length) = true := decide_eq_true (by omega)
      clear c19
      obtain rfl := Option.some.inj H
      go_wp2
      repeat (go_quiet (fail); try go_wp2)
      go_ret
      exact en_ HB
     ·rw [if_neg c19] at H
      have c19b0 : decide (6 < (l0.length : Int)) = false := decide_eq_false c19
      have c19b1 : decide (6 < l0.length) = false := decide_eq_false (by omega)
      clear c19
      obtain rfl := Option.some.inj H
      go_wp2
      repeat (go_quiet (fail); try go_wp2)
      go_ret
      exact en_ HB
end Go.Proofs.Ytdedmhmomoejkaa.X
namespace Go.Proofs.Ytdedmhmomoejkaa.X
open Go.RowKit Go.Proofs.YtdedmhmomoejkaaW.PrintWords Go.Proofs.YtdedmhmomoejkaaW.PrintLast
set_option linter.unusedVariables false
set_option linter.unusedSimpArgs false
theorem rd64_get (l : List S64) (i : Nat) (h : i < l.length) : rd_T64 l (i : Int) = l[i] := by
  simp [rd_T64, List.getD_eq_getElem?_getD, List.getElem?_eq_getElem h]
theorem check12 (l : List S64) (hl : l.length ≤ 9223372036854775806) (hs : ∀ y, y ∈ l → y.f0.size ≤ 9223372036854775806) : TotP (fun r => r = checkE l) (fun k => firkinref12_Check.f k l) := by
  have key : ∀ (n i : Nat), i + n = l.length → TotP (fun r => r = if colsOk (l.take i) (l.drop i) = true then (if l.length = 0 then 1 else if 6 < l.length then 4 else 0) else 1) (fun k => firkinref12_Check.l0 k l (i : Int)) := by
    intro n
    induction n with
    | zero =>
      intro i hi
      refine TotP.succ (fun k => by simp only [firkinref12_Check.l0]; rfl) ?_
      have e : l.drop i = [] := List.drop_eq_nil_of_le (by omega)
      rw [e]
      refine TotP.ite (fun h => absurd h (by omega)) (fun _ => ?_)
      refine TotP.ite (fun h => TotP.some_ (by rw [if_pos (by simp [colsOk]), if_pos (by omega)])) (fun h => ?_)
      refine TotP.ite (fun g => TotP.some_ (by rw [if_pos (by simp [colsOk]), if_neg (by omega), if_pos (by omega)])) (fun g => TotP.some_ (by rw [if_pos (by simp [colsOk]), if_neg (by omega), if_neg (by omega)]))
    | succ n ih =>
      intro i hi
      have hlt : i < l.length := by omega
      have hd : l.drop i = l[i] :: l.drop (i + 1) := List.drop_eq_getElem_cons hlt
      have ht : l.take i ++ [l[i]] = l.take (i + 1) := by simp
      have hstep : colsOk (l.take i) (l.drop i) = (colOk (l.take i) l[i] && colsOk (l.take (i + 1)) (l.drop (i + 1))) := by rw [hd, colsOk, ht]
      have l1k : ∀ (m j : Nat), j + m = i → (∀ y, y ∈ l.take j → ¬ y.f0.toList = l[i].f0.toList) → TotP (fun r => (r = 1 ∧ ∃ y, y ∈ l.take i ∧ y.f0.toList = l[i].f0.toList) ∨ ((∀ y, y ∈ l.take i → ¬ y.f0.toList = l[i].f0.toList) ∧ r = if colsOk (l.take (i + 1)) (l.drop (i + 1)) = true then (if l.length = 0 then 1 else if 6 < l.length then 4 else 0) else 1)) (fun k => firkinref12_Check.l1 k l (i : Int) (j : Int)) := by
        intro m
        induction m with
        | zero =>
          intro j hj hall
          obtain rfl : j = i := by omega
          refine TotP.succ (fun k => by simp only [firkinref12_Check.l1]; rfl) ?_
          refine TotP.ite (fun h => absurd h (by omega)) (fun _ => ?_)
          rw [wrap_in (by omega) (by omega), show (j : Int) + 1 = ((j + 1 : Nat) : Int) by omega]
          exact (ih (j + 1) (by omega)).weak (fun r hr => .inr ⟨hall, hr⟩)
        | succ m ihm =>
          intro j hj hall
          have hjl : j < l.length := by omega
          refine TotP.succ (fun k => by simp only [firkinref12_Check.l1]; rfl) ?_
          refine TotP.ite (fun _ => ?_) (fun h => absurd (by omega) h)
          refine TotP.ite (fun _ => ?_) (fun h => absurd (by omega) h)
          refine TotP.ite (fun _ => ?_) (fun h => absurd (by omega) h)
          refine TotP.ite (fun _ => ?_) (fun h => absurd (by omega) h)
          refine TotP.ite (fun _ => ?_) (fun h => absurd (by omega) h)
          rw [rd64_get l j hjl, rd64_get l i hlt]
          refine TotP.ite (fun he => TotP.some_ (.inl ⟨rfl, l[j], ?_, he⟩)) (fun he => ?_)
          · exact List.mem_take_iff_getElem.2 ⟨j, by omega, rfl⟩
          · rw [wrap_in (by omega) (by omega), show (j : Int) + 1 = ((j + 1 : Nat) : Int) by omega]
            refine ihm (j + 1) (by omega) (fun y hy => ?_)
            rw [List.take_succ_eq_append_getElem hjl] at hy
            rcases List.mem_append.1 hy with hy | hy
            · exact hall y hy
            · rw [List.mem_singleton.1 hy]; exact he
      have j1f : ∀ b : Bool, colOk (l.take i) l[i] = (!b && !((l.take i).any fun y => y.f0.toList == l[i].f0.toList)) → TotP (fun r => r = if colsOk (l.take i) (l.drop i) = true then (if l.length = 0 then 1 else if 6 < l.length then 4 else 0) else 1) (fun k => firkinref12_Check.j1 k l (i : Int) b) := by
        intro b hb
        refine TotP.succ (fun k => by simp only [firkinref12_Check.j1]; rfl) ?_
        refine TotP.ite (fun h => TotP.some_ (by rw [hstep, hb, h]; simp)) (fun h => ?_)
        have hbf := Bool.eq_false_iff.2 h
        have := l1k i 0 (by omega) (by simp)
        refine (by simpa using this : TotP _ _).weak (fun r hr => ?_)
        rw [hstep, hb, hbf]
        rcases hr with ⟨h1, y, hy, hye⟩ | ⟨h1, h2⟩
        · have : ((l.take i).any fun y => y.f0.toList == l[i].f0.toList) = true := List.any_eq_true.2 ⟨y, hy, by simpa using hye⟩
          rw [this]; simpa using h1
        · have : ((l.take i).any fun y => y.f0.toList == l[i].f0.toList) = false := List.any_eq_false.2 (fun y hy => by simpa using h1 y hy)
          rw [this]; simpa using h2
      refine TotP.succ (fun k => by simp only [firkinref12_Check.l0]; rfl) ?_
      refine TotP.ite (fun _ => ?_) (fun h => absurd (by omega) h)
      refine TotP.ite (fun _ => ?_) (fun h => absurd (by omega) h)
      rw [rd64_get l i hlt]
      refine TotP.bind (name12 _ (hs _ (List.getElem_mem hlt))) (fun nm hnm => ?_)
      subst hnm
      refine TotP.ite (fun hn => ?_) (fun hn => j1f true (by unfold colOk; rw [Bool.eq_false_iff.2 hn]; simp))
      refine TotP.ite (fun g => j1f true (by unfold colOk; have : ¬ (1 ≤ l[i].f1) := by omega
                                             simp [this])) (fun g => j1f _ ?_)
      unfold colOk
      by_cases g3 : l[i].f1 ≤ 3
      · have e1 : 1 ≤ l[i].f1 := by omega
        have e2 : ¬ l[i].f1 > 3 := by omega
        simp [hn, e1, e2, g3]
      · have e2 : l[i].f1 > 3 := by omega
        simp [hn, e2, g3]
  have := key l.length 0 (by omega)
  unfold firkinref12_Check.f
  refine (by simpa using this : TotP _ _).weak (fun r hr => ?_)
  rw [hr]
  unfold checkE
  by_cases h0 : l = []
  · subst h0; simp [colsOk]
  · have : ¬ l.length = 0 := fun e => h0 (List.eq_nil_of_length_eq_zero e)
    simp [this, h0]
end Go.Proofs.Ytdedmhmomoejkaa.X
namespace Go.Proofs.Ytdedmhmomoejkaa.X
open Go.RowKit Go.Proofs.YtdedmhmomoejkaaW.PrintWords Go.Proofs.YtdedmhmomoejkaaW.PrintLast Go.Proofs.YtdedmhmomoejkaaW.PrintMore
attribute [local go_sem] max2_int max_two
set_option linter.unusedVariables false
set_option linter.unusedSimpArgs false
def firkinref12_Find.l0 : Nat → List (S64) → ByteArray → Int → Option (Int)
 | 0, _, _, _ => none
 | k + 1, x0, x1, x5 => if x5 < (x0.length : Int) then (if 0 ≤ x5 then (if ((rd_T64 x0 x5).f0).toList = x1.toList then (some x5) else (firkinref12_Find.l0 k x0 x1 (wrap64 (x5 + 1)))) else (none)) else (some (-1))
def firkinref12_Find.f (k : Nat) (l0 : List (S64)) (a1 : ByteArray) : Option (Int) := firkinref12_Find.l0 k l0 a1 0
theorem firkinref12_Find.mono_l : ∀ k, (∀ y0 y1 y2, LeO (firkinref12_Find.l0 k y0 y1 y2) (firkinref12_Find.l0 (k + 1) y0 y1 y2))
 | 0 => fun _ _ _ r h => by simp [firkinref12_Find.l0] at h
 | k + 1 => by
  have ih0 := firkinref12_Find.mono_l k
  ·intro y0 y1 y2
   unfold firkinref12_Find.l0
   repeat' first
   | (with_reducible exact ih0 _ _ _)
   | (with_reducible exact LeO.refl _)
   | (with_reducible exact LeO.none _)
   | (with_reducible refine LeO.ite ?_ ?_)
   | (with_reducible refine LeO.bind ?_ (fun _ => ?_))
   | exact ih0 _ _ _
   | exact LeO.none _
   | refine LeO.ite ?_ ?_
   | refine LeO.bind ?_ (fun _ => ?_)
theorem firkinref12_Find.mono : ∀ a0 a1 k, LeO (firkinref12_Find.f k a0 a1) (firkinref12_Find.f (k + 1) a0 a1) := by
 intro a0 a1 k
 have ih0 := firkinref12_Find.mono_l k
 unfold firkinref12_Find.f
 repeat' first
   | (with_reducible exact ih0 _ _ _)
   | (with_reducible exact LeO.refl _)
   | (with_reducible exact LeO.none _)
   | (with_reducible refine LeO.ite ?_ ?_)
   | (with_reducible refine LeO.bind ?_ (fun _ => ?_))
   | exact ih0 _ _ _
   | exact LeO.none _
   | refine LeO.ite ?_ ?_
   | refine LeO.bind ?_ (fun _ => ?_)
set_option maxHeartbeats 8000000 in
set_option maxRecDepth 100000 in
theorem firkinref12_Find.calls (k : Nat) (A0 : Option Addr) (c0 : Nat) (l0 : List (S64)) (a1 : ByteArray) (r : Int) (w : World) (hr0 : Kd.C k64 w A0 l0.length l0) (hc0 : l0.length ≤ c0) (h : firkinref12_Find.f k l0 a1 = some r) :
  Calls Try.prog 36 #[.slice A0 l0.length c0, .string a1] w fun e w' => e = .returned (.int .i64 r) ∧ Drawn0 w w' := by
 have HR0 := Aside0.mk hr0
 have HC0 := Aside0.mk hc0
 clear hr0 hc0
 have H : (firkinref12_Find.l0 k l0 a1 0) = some r := h
 clear h
 have H' := Aside0.mk H
 clear H
 go_enter Try.func36, Try.ntmps36
 go_wp2
 go_loopg [5] k (fun kq v5 w' => ∃ (x5_1 : Int), v5 = .int .i64 x5_1 ∧ Aside0 (firkinref12_Find.l0 kq l0 a1 x5_1 = some r) ∧ Aside0 (kq ≤ k) ∧ Drawn0 w w')
 case atStart => exact ⟨_, (by first | rfl | (simp; done) | (simp [*]; done)), H', ⟨Nat.le_refl _⟩, by repeat (first | exact Drawn0.refl _ | apply Drawn0.step)⟩
 case round =>
  clear H'
  try clear p2
  obtain ⟨x5_1, rfl, HA, HK1, ⟨m1, rfl⟩⟩ := hrel
  cases gk with
  | zero => exact absurd HA.out (by simp [firkinref12_Find.l0])
  | succ k1 =>
   have H := HA.out
   clear HA
   simp only [firkinref12_Find.l0] at H
   by_cases c3 : x5_1 < (l0.length : Int)
   ·rw [if_pos c3] at H
    have c3b0 : decide (x5_1 < (l0.length : Int)) = true := decide_eq_true c3
    clear c3
    by_cases c4 : 0 ≤ x5_1
    ·rw [if_pos c4] at H
     have c4b0 : decide (0 ≤ x5_1) = true := decide_eq_true c4
     clear c4
     by_cases c5 : ((rd_T64 l0 x5_1).f0).toList = a1.toList
     ·rw [if_pos c5] at H
      have c5b0 : (((rd_T64 l0 x5_1).f0).toList == a1.toList) = true := beq_iff_eq.mpr c5
      have c5b1 : (((rd_T64 l0 x5_1).f0).toList != a1.toList) = false := bne_eq_false_iff_eq.mpr c5
      clear c5
      obtain rfl := Option.some.inj H
      have p286 : 0 ≤ (x5_1 : Int) := dt_
      have q286 : x5_1 < (l0.length : Int) := dt_
      obtain ⟨ad286, e286, hx286_0, hx286_1, hx286_2⟩ := at_T64 HR0.out x5_1 p286 q286
      cases e286
      replace p286 := eq_true p286
      replace q286 := eq_true q286
      go_wp2
      go_ret
      exact ⟨by first | rfl | (simp; done) | (simp [*]; done), by repeat (first | exact Drawn0.refl _ | apply Drawn0.step)⟩
     ·rw [if_neg c5] at H
      have c5b0 : (((rd_T64 l0 x5_1).f0).toList == a1.toList) = false := beq_eq_false_iff_ne.mpr c5
      have c5b1 : (((rd_T64 l0 x5_1).f0).toList != a1.toList) = true := bne_iff_ne.mpr c5
      have H' := Aside0.mk H
      clear H
      have p286 : 0 ≤ (x5_1 : Int) := dt_
      have q286 : x5_1 < (l0.length : Int) := dt_
      obtain ⟨ad286, e286, hx286_0, hx286_1, hx286_2⟩ := at_T64 HR0.out x5_1 p286 q286
      cases e286
      replace p286 := eq_true p286
      replace q286 := eq_true q286
      go_wp2
      go_roundg k1
      case measure => have := HK1.out; omega
      case rel => exact ⟨_, (by first | rfl | (simp; done) | (simp [*]; done)), H', ⟨by have := HK1.out; omega⟩, by repeat (first | exact Drawn0.refl _ | apply Drawn0.step)⟩
    ·rw [if_neg c4] at H
     exact absurd H (by simp)
   ·rw [if_neg c3] at H
    have c3b0 : decide (x5_1 < (l0.length : Int)) = false := decide_eq_false c3
    clear c3
    obtain rfl := Option.some.inj H
    go_wp2
    go_ret
    exact ⟨by first | rfl | (simp; done) | (simp [*]; done), by repeat (first | exact Drawn0.refl _ | apply Drawn0.step)⟩
end Go.Proofs.Ytdedmhmomoejkaa.X
namespace Go.Proofs.Ytdedmhmomoejkaa.X
open Go.RowKit Go.Proofs.YtdedmhmomoejkaaW.PrintWords Go.Proofs.YtdedmhmomoejkaaW.PrintLast Go.Proofs.YtdedmhmomoejkaaW.PrintMore
attribute [local go_sem] max2_int max_two
set_option linter.unusedVariables false
set_option linter.unusedSimpArgs false
mutual
def firkinref17_typed.j0 : Nat → List (S64) → Int → ByteArray → Int → Bool → Int → ByteArray → Int → ByteArray → List (S27) → Option (Bool)
 | 0, _, _, _, _, _, _, _, _, _, _ => none
 | k + 1, x0, x288000, x288001, x288002, x288003, x288004, x288005, x288006, x288007, x288008 => firkinref17_typed.l0 k x0 0 x288000 x288001 x288002 x288003 x288004 x288005 x288006 x288007 x288008
def firkinref17_typed.l0 : Nat → List (S64) → Int → Int → ByteArray → Int → Bool → Int → ByteArray → Int → ByteArray → List (S27) → Option (Bool)
 | 0, _, _, _, _, _, _, _, _, _, _, _ => none
 | k + 1, x0, x6, x288000, x288001, x288002, x288003, x288004, x288005, x288006, x288007, x288008 => if x6 < (x288008.length : Int) then (if 0 ≤ x6 then ((firkinref17_typed.f k x0 ((rd_T27 x288008 x6).f0) ((rd_T27 x288008 x6).f1) ((rd_T27 x288008 x6).f2) ((rd_T27 x288008 x6).f3.f0) ((rd_T27 x288008 x6).f3.f1) ((rd_T27 x288008 x6).f3.f2) ((rd_T27 x288008 x6).f4) ((rd_T27 x288008 x6).f5) ((rd_T27 x288008 x6).f6)).bind fun t293 => (if t293 = true then (firkinref17_typed.l0 k x0 (wrap64 (x6 + 1)) x288000 x288001 x288002 x288003 x288004 x288005 x288006 x288007 x288008) else (some false))) else (none)) else (some true)
def firkinref17_typed.f : Nat → List (S64) → Int → ByteArray → Int → Bool → Int → ByteArray → Int → ByteArray → List (S27) → Option (Bool)
 | 0, _, _, _, _, _, _, _, _, _, _ => none
 | k + 1, l0, a1_0, a1_1, a1_2, a1_3, a1_4, a1_5, a1_6, a1_7, l1_8 => if a1_1.toList = ([] : List UInt8) then (firkinref17_typed.j0 k l0 a1_0 a1_1 a1_2 a1_3 a1_4 a1_5 a1_6 a1_7 l1_8) else ((firkinref12_Find.f k l0 a1_1).bind fun t288 => (if t288 < 0 then (some false) else (if a1_0 = 2 then (if 0 ≤ t288 then (if t288 < (l0.length : Int) then (if ((rd_T64 l0 t288).f1) = a1_6 then (if a1_0 = 4 then (if ((rd_T64 l0 t288).f1) = 3 then (firkinref17_typed.j0 k l0 a1_0 a1_1 a1_2 a1_3 a1_4 a1_5 a1_6 a1_7 l1_8) else (some false)) else (firkinref17_typed.j0 k l0 a1_0 a1_1 a1_2 a1_3 a1_4 a1_5 a1_6 a1_7 l1_8)) else (some false)) else (none)) else (none)) else (if a1_0 = 4 then (if 0 ≤ t288 then (if t288 < (l0.length : Int) then (if ((rd_T64 l0 t288).f1) = 3 then (firkinref17_typed.j0 k l0 a1_0 a1_1 a1_2 a1_3 a1_4 a1_5 a1_6 a1_7 l1_8) else (some false)) else (none)) else (none)) else (firkinref17_typed.j0 k l0 a1_0 a1_1 a1_2 a1_3 a1_4 a1_5 a1_6 a1_7 l1_8)))))
end
theorem firkinref17_typed.mono_l : ∀ k, (∀ y0 y1 y2 y3 y4 y5 y6 y7 y8 y9, LeO (firkinref17_typed.f k y0 y1 y2 y3 y4 y5 y6 y7 y8 y9) (firkinref17_typed.f (k + 1) y0 y1 y2 y3 y4 y5 y6 y7 y8 y9)) ∧ (∀ y0 y1 y2 y3 y4 y5 y6 y7 y8 y9, LeO (firkinref17_typed.j0 k y0 y1 y2 y3 y4 y5 y6 y7 y8 y9) (firkinref17_typed.j0 (k + 1) y0 y1 y2 y3 y4 y5 y6 y7 y8 y9)) ∧ (∀ y0 y1 y2 y3 y4 y5 y6 y7 y8 y9 y10, LeO (firkinref17_typed.l0 k y0 y1 y2 y3 y4 y5 y6 y7 y8 y9 y10) (firkinref17_typed.l0 (k + 1) y0 y1 y2 y3 y4 y5 y6 y7 y8 y9 y10))
 | 0 => ⟨fun _ _ _ _ _ _ _ _ _ _ r h => by simp [firkinref17_typed.f] at h, fun _ _ _ _ _ _ _ _ _ _ r h => by simp [firkinref17_typed.j0] at h, fun _ _ _ _ _ _ _ _ _ _ _ r h => by simp [firkinref17_typed.l0] at h⟩
 | k + 1 => by
  obtain ⟨ih0, ih1, ih2⟩ := firkinref17_typed.mono_l k
  refine ⟨?_, ?_, ?_⟩
  ·intro y0 y1 y2 y3 y4 y5 y6 y7 y8 y9
   unfold firkinref17_typed.f
   repeat' first
   | (with_reducible exact ih0 _ _ _ _ _ _ _ _ _ _)
   | (with_reducible exact ih1 _ _ _ _ _ _ _ _ _ _)
   | (with_reducible exact ih2 _ _ _ _ _ _ _ _ _ _ _)
   | (with_reducible exact firkinref12_Find.mono _ _ _)
   | (with_reducible exact LeO.refl _)
   | (with_reducible exact LeO.none _)
   | (with_reducible refine LeO.ite ?_ ?_)
   | (with_reducible refine LeO.bind ?_ (fun _ => ?_))
   | exact ih0 _ _ _ _ _ _ _ _ _ _
   | exact ih1 _ _ _ _ _ _ _ _ _ _
   | exact ih2 _ _ _ _ _ _ _ _ _ _ _
   | exact firkinref12_Find.mono _ _ _
   | exact LeO.none _
   | refine LeO.ite ?_ ?_
   | refine LeO.bind ?_ (fun _ => ?_)
  ·intro y0 y1 y2 y3 y4 y5 y6 y7 y8 y9
   unfold firkinref17_typed.j0
   repeat' first
   | (with_reducible exact ih0 _ _ _ _ _ _ _ _ _ _)
   | (with_reducible exact ih1 _ _ _ _ _ _ _ _ _ _)
   | (with_reducible exact ih2 _ _ _ _ _ _ _ _ _ _ _)
   | (with_reducible exact firkinref12_Find.mono _ _ _)
   | (with_reducible exact LeO.refl _)
   | (with_reducible exact LeO.none _)
   | (with_reducible refine LeO.ite ?_ ?_)
   | (with_reducible refine LeO.bind ?_ (fun _ => ?_))
   | exact ih0 _ _ _ _ _ _ _ _ _ _
   | exact ih1 _ _ _ _ _ _ _ _ _ _
   | exact ih2 _ _ _ _ _ _ _ _ _ _ _
   | exact firkinref12_Find.mono _ _ _
   | exact LeO.none _
   | refine LeO.ite ?_ ?_
   | refine LeO.bind ?_ (fun _ => ?_)
  ·intro y0 y1 y2 y3 y4 y5 y6 y7 y8 y9 y10
   unfold firkinref17_typed.l0
   repeat' first
   | (with_reducible exact ih0 _ _ _ _ _ _ _ _ _ _)
   | (with_reducible exact ih1 _ _ _ _ _ _ _ _ _ _)
   | (with_reducible exact ih2 _ _ _ _ _ _ _ _ _ _ _)
   | (with_reducible exact firkinref12_Find.mono _ _ _)
   | (with_reducible exact LeO.refl _)
   | (with_reducible exact LeO.none _)
   | (with_reducible refine LeO.ite ?_ ?_)
   | (with_reducible refine LeO.bind ?_ (fun _ => ?_))
   | exact ih0 _ _ _ _ _ _ _ _ _ _
   | exact ih1 _ _ _ _ _ _ _ _ _ _
   | exact ih2 _ _ _ _ _ _ _ _ _ _ _
   | exact firkinref12_Find.mono _ _ _
   | exact LeO.none _
   | refine LeO.ite ?_ ?_
   | refine LeO.bind ?_ (fun _ => ?_)
theorem firkinref17_typed.mono : ∀ a0 a1 a2 a3 a4 a5 a6 a7 a8 a9 k, LeO (firkinref17_typed.f k a0 a1 a2 a3 a4 a5 a6 a7 a8 a9) (firkinref17_typed.f (k + 1) a0 a1 a2 a3 a4 a5 a6 a7 a8 a9) := by
 intro a0 a1 a2 a3 a4 a5 a6 a7 a8 a9 k
 obtain ⟨ih0, ih1, ih2⟩ := firkinref17_typed.mono_l k
 exact ih0 a0 a1 a2 a3 a4 a5 a6 a7 a8 a9
set_option maxHeartbeats 8000000 in
set_option maxRecDepth 100000 in
theorem firkinref17_typed.calls (k : Nat) : ∀ (A0 : Option Addr) (c0 : Nat) (l0 : List (S64)) (a1_0 : Int) (a1_1 : ByteArray) (a1_2 : Int) (a1_3 : Bool) (a1_4 : Int) (a1_5 : ByteArray) (a1_6 : Int) (a1_7 : ByteArray) (A1_8 : Option Addr) (c1_8 : Nat) (l1_8 : List (S27)) (r : Bool) (w : World) (hr0 : Kd.C k64 w A0 l0.length l0) (hc0 : l0.length ≤ c0) (hr1_8 : Kd.C k27 w A1_8 l1_8.length l1_8) (hc1_8 : l1_8.length ≤ c1_8) (h : firkinref17_typed.f k l0 a1_0 a1_1 a1_2 a1_3 a1_4 a1_5 a1_6 a1_7 l1_8 = some r),
  Calls Try.prog 56 #[.slice A0 l0.length c0, .agg #[.int .i64 a1_0, .string a1_1, .int .i64 a1_2, .bool a1_3, .int .i64 a1_4, .string a1_5, .int .i64 a1_6, .string a1_7, .slice A1_8 l1_8.length c1_8]] w fun e w' => e = .returned (.bool r) ∧ Below w.heap.size w w' := by
 induction k using Nat.strongRecOn with
 | _ k ih =>
 intro A0 c0 l0 a1_0 a1_1 a1_2 a1_3 a1_4 a1_5 a1_6 a1_7 A1_8 c1_8 l1_8 r w hr0 hc0 hr1_8 hc1_8 h
 cases k with
 | zero => exact absurd h (by simp [firkinref17_typed.f])
 | succ k =>
 simp only [firkinref17_typed.f] at h
 have hu27 := Try.underlying27
 have HR0 := Aside0.mk hr0
 have HC0 := Aside0.mk hc0
 clear hr0 hc0
 have HR1_8 := Aside0.mk hr1_8
 have HC1_8 := Aside0.mk hc1_8
 clear hr1_8 hc1_8
 have HB := Aside0.mk (Below.refl w.heap.size w)
 have H : (if a1_1.toList = ([] : List UInt8) then (firkinref17_typed.j0 k l0 a1_0 a1_1 a1_2 a1_3 a1_4 a1_5 a1_6 a1_7 l1_8) else ((firkinref12_Find.f k l0 a1_1).bind fun t288 => (if t288 < 0 then (some false) else (if a1_0 = 2 then (if 0 ≤ t288 then (if t288 < (l0.length : Int) then (if ((rd_T64 l0 t288).f1) = a1_6 then (if a1_0 = 4 then (if ((rd_T64 l0 t288).f1) = 3 then (firkinref17_typed.j0 k l0 a1_0 a1_1 a1_2 a1_3 a1_4 a1_5 a1_6 a1_7 l1_8) else (some false)) else (firkinref17_typed.j0 k l0 a1_0 a1_1 a1_2 a1_3 a1_4 a1_5 a1_6 a1_7 l1_8)) else (some false)) else (none)) else (none)) else (if a1_0 = 4 then (if 0 ≤ t288 then (if t288 < (l0.length : Int) then (if ((rd_T64 l0 t288).f1) = 3 then (firkinref17_typed.j0 k l0 a1_0 a1_1 a1_2 a1_3 a1_4 a1_5 a1_6 a1_7 l1_8) else (some false)) else (none)) else (none)) else (firkinref17_typed.j0 k l0 a1_0 a1_1 a1_2 a1_3 a1_4 a1_5 a1_6 a1_7 l1_8)))))) = some r := h
 clear h
 have HC3 := Aside0.mk H
 clear H
 go_enter Try.func56, Try.ntmps56
 go_upto_if 9 with (first | (refine bx_ (N := 3) (cs := #[.int .i64 a1_0, .string a1_1, .int .i64 a1_2, .bool a1_3, .int .i64 a1_4, .string a1_5, .int .i64 a1_6, .string a1_7, .slice A1_8 l1_8.length c1_8]) (t := 27) ?_; intro gb287 hg w4 hbox hb; have BK287 := Aside0.mk (hbox); have GW287 := ge_ HB hg; have GE287 := ge_ HB hg; replace HB := bs_ HB hb; clear hb hbox hg; obtain ⟨C5_0, C5_1, C5_2, C5_3, C5_4, C5_5, C5_6, C5_7, C5_8⟩ := zc9_ BK287.out; obtain ⟨F5_0, F5_1, F5_2, F5_3, F5_4, F5_5, F5_6, F5_7, F5_8⟩ := zf9_ BK287.out))
 repeat (go_quiet (first | (refine bx_ (N := 3) (cs := #[.int .i64 a1_0, .string a1_1, .int .i64 a1_2, .bool a1_3, .int .i64 a1_4, .string a1_5, .int .i64 a1_6, .string a1_7, .slice A1_8 l1_8.length c1_8]) (t := 27) ?_; intro gb287 hg w4 hbox hb; have BK287 := Aside0.mk (hbox); have GW287 := ge_ HB hg; have GE287 := ge_ HB hg; replace HB := bs_ HB hb; clear hb hbox hg; obtain ⟨C5_0, C5_1, C5_2, C5_3, C5_4, C5_5, C5_6, C5_7, C5_8⟩ := zc9_ BK287.out; obtain ⟨F5_0, F5_1, F5_2, F5_3, F5_4, F5_5, F5_6, F5_7, F5_8⟩ := zf9_ BK287.out)); go_upto_if 9 with (first | (refine bx_ (N := 3) (cs := #[.int .i64 a1_0, .string a1_1, .int .i64 a1_2, .bool a1_3, .int .i64 a1_4, .string a1_5, .int .i64 a1_6, .string a1_7, .slice A1_8 l1_8.length c1_8]) (t := 27) ?_; intro gb287 hg w4 hbox hb; have BK287 := Aside0.mk (hbox); have GW287 := ge_ HB hg; have GE287 := ge_ HB hg; replace HB := bs_ HB hb; clear hb hbox hg; obtain ⟨C5_0, C5_1, C5_2, C5_3, C5_4, C5_5, C5_6, C5_7, C5_8⟩ := zc9_ BK287.out; obtain ⟨F5_0, F5_1, F5_2, F5_3, F5_4, F5_5, F5_6, F5_7, F5_8⟩ := zf9_ BK287.out)))
 (try simp only [Act.put, List.setIfInBounds_toArray, List.set_cons_zero, List.set_cons_succ])
 go_cut [] (fun wc => ∃ (kq : Nat), Aside0 (firkinref17_typed.j0 kq l0 a1_0 a1_1 a1_2 a1_3 a1_4 a1_5 a1_6 a1_7 l1_8 = some r) ∧ Aside0 (kq ≤ k) ∧ Aside0 (wc.heap[gb287]? = some (.cells #[.int .i64 a1_0, .string a1_1, .int .i64 a1_2, .bool a1_3, .int .i64 a1_4, .string a1_5, .int .i64 a1_6, .string a1_7, (.slice A1_8 l1_8.length c1_8)] 27 (0, 0))) ∧ Aside0 (Below w.heap.size w wc))
 case first =>
  have H := HC3.out
  clear HC3
  by_cases c6 : a1_1.toList = ([] : List UInt8)
  ·rw [if_pos c6] at H
   have c6b0 : a1_1.toList.isEmpty = true := by simpa using c6
   have c6b1 : (a1_1.toList == ([] : List UInt8)) = true := beq_iff_eq.mpr c6
   have c6b2 : (a1_1.toList != ([] : List UInt8)) = false := bne_eq_false_iff_eq.mpr c6
   have c6b3 : (a1_1.toList = ([] : List UInt8)) := c6
   clear c6
   (first | rw [c6b0] | (simp only [i64_w, i32_w]; rw [c6b0]) | skip)
   have H' := Aside0.mk H
   clear H
   go_wp2
   repeat (go_quiet (fail); try go_wp2)
   go_meet
   case rel => exact ⟨_, H', ⟨by first | omega | exact Nat.le_refl _⟩, ⟨by (with_reducible repeat (first | refine blk_drewN ?_ _ | refine blk_drew ?_ | refine blk_alloc ?_ _)); exact BK287.out⟩, ⟨by repeat (first | (with_reducible first | exact HB.out | apply below_alloc | apply pw_below_drewN | apply below_drew1 | refine below_set ?_ GE287.out) | exact HB.out)⟩⟩
  ·rw [if_neg c6] at H
   have c6b0 : a1_1.toList.isEmpty = false := by simpa using c6
   have c6b1 : (a1_1.toList == ([] : List UInt8)) = false := beq_eq_false_iff_ne.mpr c6
   have c6b2 : (a1_1.toList != ([] : List UInt8)) = true := bne_iff_ne.mpr c6
   have c6b3 : ¬ (a1_1.toList = ([] : List UInt8)) := c6
   (first | rw [c6b0] | (simp only [i64_w, i32_w]; rw [c6b0]) | skip)
   replace H := Option.bind_eq_some_iff.mp H
   obtain ⟨t288, A70, H⟩ := H
   replace H : (if t288 < 0 then (some false) else (if a1_0 = 2 then (if 0 ≤ t288 then (if t288 < (l0.length : Int) then (if ((rd_T64 l0 t288).f1) = a1_6 then (if a1_0 = 4 then (if ((rd_T64 l0 t288).f1) = 3 then (firkinref17_typed.j0 k l0 a1_0 a1_1 a1_2 a1_3 a1_4 a1_5 a1_6 a1_7 l1_8) else (some false)) else (firkinref17_typed.j0 k l0 a1_0 a1_1 a1_2 a1_3 a1_4 a1_5 a1_6 a1_7 l1_8)) else (some false)) else (none)) else (none)) else (if a1_0 = 4 then (if 0 ≤ t288 then (if t288 < (l0.length : Int) then (if ((rd_T64 l0 t288).f1) = 3 then (firkinref17_typed.j0 k l0 a1_0 a1_1 a1_2 a1_3 a1_4 a1_5 a1_6 a1_7 l1_8) else (some false)) else (none)) else (none)) else (firkinref17_typed.j0 k l0 a1_0 a1_1 a1_2 a1_3 a1_4 a1_5 a1_6 a1_7 l1_8)))) = some r := H
   have A7 := Aside0.mk A70
   clear A70
   by_cases c8 : t288 < 0
   ·rw [if_pos c8] at H
    have c8b0 : decide (t288 < 0) = true := decide_eq_true c8
    clear c8
    obtain rfl := Option.some.inj H
    obtain ⟨C9_0, C9_1, C9_2, C9_3, C9_4, C9_5, C9_6, C9_7, C9_8⟩ := cz9_ BK287.out
    obtain ⟨F9_0, F9_1, F9_2, F9_3, F9_4, F9_5, F9_6, F9_7, F9_8⟩ := fz9_ BK287.out
    go_wp2_with (first | (go_at_call 36; (with_reducible refine (firkinref12_Find.calls k _ _ l0 a1_1 t288 _ ?side1 ?side2 A7.out).mono ?_); (case side1 => repeat (first | exact (Kd.C_below HR0.out HB.out) | (with_reducible refine Kd.C_alloc ?_ _) | (with_reducible refine Kd.C_drewN ?_ _) | (with_reducible refine Kd.C_drew ?_))); (case side2 => exact HC0.out); rintro e w' ⟨rfl, ⟨nd, rfl⟩⟩; (try first | exact ⟨rfl, _, World.drewN_drewN _ _ _⟩ | exact ⟨rfl, _, Eq.trans (World.drewN_drewN _ _ _) (congrArg (World.drewN _) (Nat.add_assoc _ _ _))⟩)))
    repeat (go_quiet (first | (go_at_call 36; (with_reducible refine (firkinref12_Find.calls k _ _ l0 a1_1 t288 _ ?side1 ?side2 A7.out).mono ?_); (case side1 => repeat (first | exact (Kd.C_below HR0.out HB.out) | (with_reducible refine Kd.C_alloc ?_ _) | (with_reducible refine Kd.C_drewN ?_ _) | (with_reducible refine Kd.C_drew ?_))); (case side2 => exact HC0.out); rintro e w' ⟨rfl, ⟨nd, rfl⟩⟩; (try first | exact ⟨rfl, _, World.drewN_drewN _ _ _⟩ | exact ⟨rfl, _, Eq.trans (World.drewN_drewN _ _ _) (congrArg (World.drewN _) (Nat.add_assoc _ _ _))⟩))); try go_wp2_with (first | (go_at_call 36; (with_reducible refine (firkinref12_Find.calls k _ _ l0 a1_1 t288 _ ?side1 ?side2 A7.out).mono ?_); (case side1 => repeat (first | exact (Kd.C_below HR0.out HB.out) | (with_reducible refine Kd.C_alloc ?_ _) | (with_reducible refine Kd.C_drewN ?_ _) | (with_reducible refine Kd.C_drew ?_))); (case side2 => exact HC0.out); rintro e w' ⟨rfl, ⟨nd, rfl⟩⟩; (try first | exact ⟨rfl, _, World.drewN_drewN _ _ _⟩ | exact ⟨rfl, _, Eq.trans (World.drewN_drewN _ _ _) (congrArg (World.drewN _) (Nat.add_assoc _ _ _))⟩))))
    go_ret
    exact en_ HB
   ·rw [if_neg c8] at H
    have c8b0 : decide (t288 < 0) = false := decide_eq_false c8
    clear c8
    by_cases c10 : a1_0 = 2
    ·rw [if_pos c10] at H
     have c10b0 : (a1_0 == 2) = true := beq_iff_eq.mpr c10
     have c10b1 : (a1_0 != 2) = false := bne_eq_false_iff_eq.mpr c10
     clear c10
     by_cases c11 : 0 ≤ t288
     ·rw [if_pos c11] at H
      have c11b0 : decide (0 ≤ t288) = true := decide_eq_true c11
      clear c11
      by_cases c12 : t288 < (l0.length : Int)
      ·rw [if_pos c12] at H
       have c12b0 : decide (t288 < (l0.length : Int)) = true := decide_eq_true c12
       clear c12
       by_cases c13 : ((rd_T64 l0 t288).f1) = a1_6
       ·rw [if_pos c13] at H
        have c13b0 : (((rd_T64 l0 t288).f1) == a1_6) = true := beq_iff_eq.mpr c13
        have c13b1 : (((rd_T64 l0 t288).f1) != a1_6) = false := bne_eq_false_iff_eq.mpr c13
        clear c13
        by_cases c14 : a1_0 = 4
        ·rw [if_pos c14] at H
         have c14b0 : (a1_0 == 4) = true := beq_iff_eq.mpr c14
         have c14b1 : (a1_0 != 4) = false := bne_eq_false_iff_eq.mpr c14
         clear c14
         by_cases c15 : ((rd_T64 l0 t288).f1) = 3
         ·rw [if_pos c15] at H
          have c15b0 : (((rd_T64 l0 t288).f1) == 3) = true := beq_iff_eq.mpr c15
          have c15b1 : (((rd_T64 l0 t288).f1) != 3) = false := bne_eq_false_iff_eq.mpr c15
          clear c15
          have H' := Aside0.mk H
          clear H
          obtain ⟨C16_0, C16_1, C16_2, C16_3, C16_4, C16_5, C16_6, C16_7, C16_8⟩ := cz9_ BK287.out
          obtain ⟨F16_0, F16_1, F16_2, F16_3, F16_4, F16_5, F16_6, F16_7, F16_8⟩ := fz9_ BK287.out
          go_wp2_with (first | (go_at_call 36; (with_reducible refine (firkinref12_Find.calls k _ _ l0 a1_1 t288 _ ?side1 ?side2 A7.out).mono ?_); (case side1 => repeat (first | exact (Kd.C_below HR0.out HB.out) | (with_reducible refine Kd.C_alloc ?_ _) | (with_reducible refine Kd.C_drewN ?_ _) | (with_reducible refine Kd.C_drew ?_))); (case side2 => exact HC0.out); rintro e w' ⟨rfl, ⟨nd, rfl⟩⟩; (try first | exact ⟨rfl, _, World.drewN_drewN _ _ _⟩ | exact ⟨rfl, _, Eq.trans (World.drewN_drewN _ _ _) (congrArg (World.drewN _) (Nat.add_assoc _ _ _))⟩); have p289 : 0 ≤ (t288 : Int) := dt_; have q289 : t288 < (l0.length : Int) := dt_; obtain ⟨ad289, e289, hx289_0, hx289_1, hx289_2⟩ := at_T64 HR0.out t288 p289 q289; cases e289; replace hx289_0 := hc_ HB hx289_0; replace hx289_1 := hc_ HB hx289_1; replace hx289_2 := hc_ HB hx289_2; replace p289 := eq_true p289; replace q289 := eq_true q289; have p290 : 0 ≤ (t288 : Int) := dt_; have q290 : t288 < (l0.length : Int) := dt_; obtain ⟨ad290, e290, hx290_0, hx290_1, hx290_2⟩ := at_T64 HR0.out t288 p290 q290; obtain rfl : ad289 = ad290 := (by injection e290); replace hx290_0 := hc_ HB hx290_0; replace hx290_1 := hc_ HB hx290_1; replace hx290_2 := hc_ HB hx290_2; replace p290 := eq_true p290; replace q290 := eq_true q290))
          repeat (go_quiet (first | (go_at_call 36; (with_reducible refine (firkinref12_Find.calls k _ _ l0 a1_1 t288 _ ?side1 ?side2 A7.out).mono ?_); (case side1 => repeat (first | exact (Kd.C_below HR0.out HB.out) | (with_reducible refine Kd.C_alloc ?_ _) | (with_reducible refine Kd.C_drewN ?_ _) | (with_reducible refine Kd.C_drew ?_))); (case side2 => exact HC0.out); rintro e w' ⟨rfl, ⟨nd, rfl⟩⟩; (try first | exact ⟨rfl, _, World.drewN_drewN _ _ _⟩ | exact ⟨rfl, _, Eq.trans (World.drewN_drewN _ _ _) (congrArg (World.drewN _) (Nat.add_assoc _ _ _))⟩); have p289 : 0 ≤ (t288 : Int) := dt_; have q289 : t288 < (l0.length : Int) := dt_; obtain ⟨ad289, e289, hx289_0, hx289_1, hx289_2⟩ := at_T64 HR0.out t288 p289 q289; cases e289; replace hx289_0 := hc_ HB hx289_0; replace hx289_1 := hc_ HB hx289_1; replace hx289_2 := hc_ HB hx289_2; replace p289 := eq_true p289; replace q289 := eq_true q289; have p290 : 0 ≤ (t288 : Int) := dt_; have q290 : t288 < (l0.length : Int) := dt_; obtain ⟨ad290, e290, hx290_0, hx290_1, hx290_2⟩ := at_T64 HR0.out t288 p290 q290; obtain rfl : ad289 = ad290 := (by injection e290); replace hx290_0 := hc_ HB hx290_0; replace hx290_1 := hc_ HB hx290_1; replace hx290_2 := hc_ HB hx290_2; replace p290 := eq_true p290; replace q290 := eq_true q290)); try go_wp2_with (first | (go_at_call 36; (with_reducible refine (firkinref12_Find.calls k _ _ l0 a1_1 t288 _ ?side1 ?side2 A7.out).mono ?_); (case side1 => repeat (first | exact (Kd.C_below HR0.out HB.out) | (with_reducible refine Kd.C_alloc ?_ _) | (with_reducible refine Kd.C_drewN ?_ _) | (with_reducible refine Kd.C_drew ?_))); (case side2 => exact HC0.out); rintro e w' ⟨rfl, ⟨nd, rfl⟩⟩; (try first | exact ⟨rfl, _, World.drewN_drewN _ _ _⟩ | exact ⟨rfl, _, Eq.trans (World.drewN_drewN _ _ _) (congrArg (World.drewN _) (Nat.add_assoc _ _ _))⟩); have p289 : 0 ≤ (t288 : Int) := dt_; have q289 : t288 < (l0.length : Int) := dt_; obtain ⟨ad289, e289, hx289_0, hx289_1, hx289_2⟩ := at_T64 HR0.out t288 p289 q289; cases e289; replace hx289_0 := hc_ HB hx289_0; replace hx289_1 := hc_ HB hx289_1; replace hx289_2 := hc_ HB hx289_2; replace p289 := eq_true p289; replace q289 := eq_true q289; have p290 : 0 ≤ (t288 : Int) := dt_; have q290 : t288 < (l0.length : Int) := dt_; obtain ⟨ad290, e290, hx290_0, hx290_1, hx290_2⟩ := at_T64 HR0.out t288 p290 q290; obtain rfl : ad289 = ad290 := (by injection e290); replace hx290_0 := hc_ HB hx290_0; replace hx290_1 := hc_ HB hx290_1; replace hx290_2 := hc_ HB hx290_2; replace p290 := eq_true p290; replace q290 := eq_true q290)))
          go_meet
          case rel => exact ⟨_, H', ⟨by first | omega | exact Nat.le_refl _⟩, ⟨by (with_reducible repeat (first | refine blk_drewN ?_ _ | refine blk_drew ?_ | refine blk_alloc ?_ _)); exact BK287.out⟩, ⟨by repeat (first | (with_reducible first | exact HB.out | apply below_alloc | apply pw_below_drewN | apply below_drew1 | refine below_set ?_ GE287.out) | exact HB.out)⟩⟩
         ·rw [if_neg c15] at H
          have c15b0 : (((rd_T64 l0 t288).f1) == 3) = false := beq_eq_false_iff_ne.mpr c15
          have c15b1 : (((rd_T64 l0 t288).f1) != 3) = true := bne_iff_ne.mpr c15
          obtain rfl := Option.some.inj H
          obtain ⟨C17_0, C17_1, C17_2, C17_3, C17_4, C17_5, C17_6, C17_7, C17_8⟩ := cz9_ BK287.out
          obtain ⟨F17_0, F17_1, F17_2, F17_3, F17_4, F17_5, F17_6, F17_7, F17_8⟩ := fz9_ BK287.out
          go_wp2_with (first | (go_at_call 36; (with_reducible refine (firkinref12_Find.calls k _ _ l0 a1_1 t288 _ ?side1 ?side2 A7.out).mono ?_); (case side1 => repeat (first | exact (Kd.C_below HR0.out HB.out) | (with_reducible refine Kd.C_alloc ?_ _) | (with_reducible refine Kd.C_drewN ?_ _) | (with_reducible refine Kd.C_drew ?_))); (case side2 => exact HC0.out); rintro e w' ⟨rfl, ⟨nd, rfl⟩⟩; (try first | exact ⟨rfl, _, World.drewN_drewN _ _ _⟩ | exact ⟨rfl, _, Eq.trans (World.drewN_drewN _ _ _) (congrArg (World.drewN _) (Nat.add_assoc _ _ _))⟩); have p289 : 0 ≤ (t288 : Int) := dt_; have q289 : t288 < (l0.length : Int) := dt_; obtain ⟨ad289, e289, hx289_0, hx289_1, hx289_2⟩ := at_T64 HR0.out t288 p289 q289; cases e289; replace hx289_0 := hc_ HB hx289_0; replace hx289_1 := hc_ HB hx289_1; replace hx289_2 := hc_ HB hx289_2; replace p289 := eq_true p289; replace q289 := eq_true q289; have p290 : 0 ≤ (t288 : Int) := dt_; have q290 : t288 < (l0.length : Int) := dt_; obtain ⟨ad290, e290, hx290_0, hx290_1, hx290_2⟩ := at_T64 HR0.out t288 p290 q290; obtain rfl : ad289 = ad290 := (by injection e290); replace hx290_0 := hc_ HB hx290_0; replace hx290_1 := hc_ HB hx290_1; replace hx290_2 := hc_ HB hx290_2; replace p290 := eq_true p290; replace q290 := eq_true q290))
          repeat (go_quiet (first | (go_at_call 36; (with_reducible refine (firkinref12_Find.calls k _ _ l0 a1_1 t288 _ ?side1 ?side2 A7.out).mono ?_); (case side1 => repeat (first | exact (Kd.C_below HR0.out HB.out) | (with_reducible refine Kd.C_alloc ?_ _) | (with_reducible refine Kd.C_drewN ?_ _) | (with_reducible refine Kd.C_drew ?_))); (case side2 => exact HC0.out); rintro e w' ⟨rfl, ⟨nd, rfl⟩⟩; (try first | exact ⟨rfl, _, World.drewN_drewN _ _ _⟩ | exact ⟨rfl, _, Eq.trans (World.drewN_drewN _ _ _) (congrArg (World.drewN _) (Nat.add_assoc _ _ _))⟩); have p289 : 0 ≤ (t288 : Int) := dt_; have q289 : t288 < (l0.length : Int) := dt_; obtain ⟨ad289, e289, hx289_0, hx289_1, hx289_2⟩ := at_T64 HR0.out t288 p289 q289; cases e289; replace hx289_0 := hc_ HB hx289_0; replace hx289_1 := hc_ HB hx289_1; replace hx289_2 := hc_ HB hx289_2; replace p289 := eq_true p289; replace q289 := eq_true q289; have p290 : 0 ≤ (t288 : Int) := dt_; have q290 : t288 < (l0.length : Int) := dt_; obtain ⟨ad290, e290, hx290_0, hx290_1, hx290_2⟩ := at_T64 HR0.out t288 p290 q290; obtain rfl : ad289 = ad290 := (by injection e290); replace hx290_0 := hc_ HB hx290_0; replace hx290_1 := hc_ HB hx290_1; replace hx290_2 := hc_ HB hx290_2; replace p290 := eq_true p290; replace q290 := eq_true q290)); try go_wp2_with (first | (go_at_call 36; (with_reducible refine (firkinref12_Find.calls k _ _ l0 a1_1 t288 _ ?side1 ?side2 A7.out).mono ?_); (case side1 => repeat (first | exact (Kd.C_below HR0.out HB.out) | (with_reducible refine Kd.C_alloc ?_ _) | (with_reducible refine Kd.C_drewN ?_ _) | (with_reducible refine Kd.C_drew ?_))); (case side2 => exact HC0.out); rintro e w' ⟨rfl, ⟨nd, rfl⟩⟩; (try first | exact ⟨rfl, _, World.drewN_drewN _ _ _⟩ | exact ⟨rfl, _, Eq.trans (World.drewN_drewN _ _ _) (congrArg (World.drewN _) (Nat.add_assoc _ _ _))⟩); have p289 : 0 ≤ (t288 : Int) := dt_; have q289 : t288 < (l0.length : Int) := dt_; obtain ⟨ad289, e289, hx289_0, hx289_1, hx289_2⟩ := at_T64 HR0.out t288 p289 q289; cases e289; replace hx289_0 := hc_ HB hx289_0; replace hx289_1 := hc_ HB hx289_1; replace hx289_2 := hc_ HB hx289_2; replace p289 := eq_true p289; replace q289 := eq_true q289; have p290 : 0 ≤ (t288 : Int) := dt_; have q290 : t288 < (l0.length : Int) := dt_; obtain ⟨ad290, e290, hx290_0, hx290_1, hx290_2⟩ := at_T64 HR0.out t288 p290 q290; obtain rfl : ad289 = ad290 := (by injection e290); replace hx290_0 := hc_ HB hx290_0; replace hx290_1 := hc_ HB hx290_1; replace hx290_2 := hc_ HB hx290_2; replace p290 := eq_true p290; replace q290 := eq_true q290)))
          go_ret
          exact en_ HB
        ·rw [if_neg c14] at H
         have c14b0 : (a1_0 == 4) = false := beq_eq_false_iff_ne.mpr c14
         have c14b1 : (a1_0 != 4) = true := bne_iff_ne.mpr c14
         have H' := Aside0.mk H
         clear H
         obtain ⟨C18_0, C18_1, C18_2, C18_3, C18_4, C18_5, C18_6, C18_7, C18_8⟩ := cz9_ BK287.out
         obtain ⟨F18_0, F18_1, F18_2, F18_3, F18_4, F18_5, F18_6, F18_7, F18_8⟩ := fz9_ BK287.out
         go_wp2_with (first | (go_at_call 36; (with_reducible refine (firkinref12_Find.calls k _ _ l0 a1_1 t288 _ ?side1 ?side2 A7.out).mono ?_); (case side1 => repeat (first | exact (Kd.C_below HR0.out HB.out) | (with_reducible refine Kd.C_alloc ?_ _) | (with_reducible refine Kd.C_drewN ?_ _) | (with_reducible refine Kd.C_drew ?_))); (case side2 => exact HC0.out); rintro e w' ⟨rfl, ⟨nd, rfl⟩⟩; (try first | exact ⟨rfl, _, World.drewN_drewN _ _ _⟩ | exact ⟨rfl, _, Eq.trans (World.drewN_drewN _ _ _) (congrArg (World.drewN _) (Nat.add_assoc _ _ _))⟩); have p289 : 0 ≤ (t288 : Int) := dt_; have q289 : t288 < (l0.length : Int) := dt_; obtain ⟨ad289, e289, hx289_0, hx289_1, hx289_2⟩ := at_T64 HR0.out t288 p289 q289; cases e289; replace hx289_0 := hc_ HB hx289_0; replace hx289_1 := hc_ HB hx289_1; replace hx289_2 := hc_ HB hx289_2; replace p289 := eq_true p289; replace q289 := eq_true q289))
         repeat (go_quiet (first | (go_at_call 36; (with_reducible refine (firkinref12_Find.calls k _ _ l0 a1_1 t288 _ ?side1 ?side2 A7.out).mono ?_); (case side1 => repeat (first | exact (Kd.C_below HR0.out HB.out) | (with_reducible refine Kd.C_alloc ?_ _) | (with_reducible refine Kd.C_drewN ?_ _) | (with_reducible refine Kd.C_drew ?_))); (case side2 => exact HC0.out); rintro e w' ⟨rfl, ⟨nd, rfl⟩⟩; (try first | exact ⟨rfl, _, World.drewN_drewN _ _ _⟩ | exact ⟨rfl, _, Eq.trans (World.drewN_drewN _ _ _) (congrArg (World.drewN _) (Nat.add_assoc _ _ _))⟩); have p289 : 0 ≤ (t288 : Int) := dt_; have q289 : t288 < (l0.length : Int) := dt_; obtain ⟨ad289, e289, hx289_0, hx289_1, hx289_2⟩ := at_T64 HR0.out t288 p289 q289; cases e289; replace hx289_0 := hc_ HB hx289_0; replace hx289_1 := hc_ HB hx289_1; replace hx289_2 := hc_ HB hx289_2; replace p289 := eq_true p289; replace q289 := eq_true q289)); try go_wp2_with (first | (go_at_call 36; (with_reducible refine (firkinref12_Find.calls k _ _ l0 a1_1 t288 _ ?side1 ?side2 A7.out).mono ?_); (case side1 => repeat (first | exact (Kd.C_below HR0.out HB.out) | (with_reducible refine Kd.C_alloc ?_ _) | (with_reducible refine Kd.C_drewN ?_ _) | (with_reducible refine Kd.C_drew ?_))); (case side2 => exact HC0.out); rintro e w' ⟨rfl, ⟨nd, rfl⟩⟩; (try first | exact ⟨rfl, _, World.drewN_drewN _ _ _⟩ | exact ⟨rfl, _, Eq.trans (World.drewN_drewN _ _ _) (congrArg (World.drewN _) (Nat.add_assoc _ _ _))⟩); have p289 : 0 ≤ (t288 : Int) := dt_; have q289 : t288 < (l0.length : Int) := dt_; obtain ⟨ad289, e289, hx289_0, hx289_1, hx289_2⟩ := at_T64 HR0.out t288 p289 q289; cases e289; replace hx289_0 := hc_ HB hx289_0; replace hx289_1 := hc_ HB hx289_1; replace hx289_2 := hc_ HB hx289_2; replace p289 := eq_true p289; replace q289 := eq_true q289)))
         go_meet
         case rel => exact ⟨_, H', ⟨by first | omega | exact Nat.le_refl _⟩, ⟨by (with_reducible repeat (first | refine blk_drewN ?_ _ | refine blk_drew ?_ | refine blk_alloc ?_ _)); exact BK287.out⟩, ⟨by repeat (first | (with_reducible first | exact HB.out | apply below_alloc | apply pw_below_drewN | apply below_drew1 | refine below_set ?_ GE287.out) | exact HB.out)⟩⟩
       ·rw [if_neg c13] at H
        have c13b0 : (((rd_T64 l0 t288).f1) == a1_6) = false := beq_eq_false_iff_ne.mpr c13
        have c13b1 : (((rd_T64 l0 t288).f1) != a1_6) = true := bne_iff_ne.mpr c13
        obtain rfl := Option.some.inj H
        obtain ⟨C19_0, C19_1, C19_2, C19_3, C19_4, C19_5, C19_6, C19_7, C19_8⟩ := cz9_ BK287.out
        obtain ⟨F19_0, F19_1, F19_2, F19_3, F19_4, F19_5, F19_6, F19_7, F19_8⟩ := fz9_ BK287.out
        go_wp2_with (first | (go_at_call 36; (with_reducible refine (firkinref12_Find.calls k _ _ l0 a1_1 t288 _ ?side1 ?side2 A7.out).mono ?_); (case side1 => repeat (first | exact (Kd.C_below HR0.out HB.out) | (with_reducible refine Kd.C_alloc ?_ _) | (with_reducible refine Kd.C_drewN ?_ _) | (with_reducible refine Kd.C_drew ?_))); (case side2 => exact HC0.out); rintro e w' ⟨rfl, ⟨nd, rfl⟩⟩; (try first | exact ⟨rfl, _, World.drewN_drewN _ _ _⟩ | exact ⟨rfl, _, Eq.trans (World.drewN_drewN _ _ _) (congrArg (World.drewN _) (Nat.add_assoc _ _ _))⟩); have p289 : 0 ≤ (t288 : Int) := dt_; have q289 : t288 < (l0.length : Int) := dt_; obtain ⟨ad289, e289, hx289_0, hx289_1, hx289_2⟩ := at_T64 HR0.out t288 p289 q289; cases e289; replace hx289_0 := hc_ HB hx289_0; replace hx289_1 := hc_ HB hx289_1; replace hx289_2 := hc_ HB hx289_2; replace p289 := eq_true p289; replace q289 := eq_true q289))
        repeat (go_quiet (first | (go_at_call 36; (with_reducible refine (firkinref12_Find.calls k _ _ l0 a1_1 t288 _ ?side1 ?side2 A7.out).mono ?_); (case side1 => repeat (first | exact (Kd.C_below HR0.out HB.out) | (with_reducible refine Kd.C_alloc ?_ _) | (with_reducible refine Kd.C_drewN ?_ _) | (with_reducible refine Kd.C_drew ?_))); (case side2 => exact HC0.out); rintro e w' ⟨rfl, ⟨nd, rfl⟩⟩; (try first | exact ⟨rfl, _, World.drewN_drewN _ _ _⟩ | exact ⟨rfl, _, Eq.trans (World.drewN_drewN _ _ _) (congrArg (World.drewN _) (Nat.add_assoc _ _ _))⟩); have p289 : 0 ≤ (t288 : Int) := dt_; have q289 : t288 < (l0.length : Int) := dt_; obtain ⟨ad289, e289, hx289_0, hx289_1, hx289_2⟩ := at_T64 HR0.out t288 p289 q289; cases e289; replace hx289_0 := hc_ HB hx289_0; replace hx289_1 := hc_ HB hx289_1; replace hx289_2 := hc_ HB hx289_2; replace p289 := eq_true p289; replace q289 := eq_true q289)); try go_wp2_with (first | (go_at_call 36; (with_reducible refine (firkinref12_Find.calls k _ _ l0 a1_1 t288 _ ?side1 ?side2 A7.out).mono ?_); (case side1 => repeat (first | exact (Kd.C_below HR0.out HB.out) | (with_reducible refine Kd.C_alloc ?_ _) | (with_reducible refine Kd.C_drewN ?_ _) | (with_reducible refine Kd.C_drew ?_))); (case side2 => exact HC0.out); rintro e w' ⟨rfl, ⟨nd, rfl⟩⟩; (try first | exact ⟨rfl, _, World.drewN_drewN _ _ _⟩ | exact ⟨rfl, _, Eq.trans (World.drewN_drewN _ _ _) (congrArg (World.drewN _) (Nat.add_assoc _ _ _))⟩); have p289 : 0 ≤ (t288 : Int) := dt_; have q289 : t288 < (l0.length : Int) := dt_; obtain ⟨ad289, e289, hx289_0, hx289_1, hx289_2⟩ := at_T64 HR0.out t288 p289 q289; cases e289; replace hx289_0 := hc_ HB hx289_0; replace hx289_1 := hc_ HB hx289_1; replace hx289_2 := hc_ HB hx289_2; replace p289 := eq_true p289; replace q289 := eq_true q289)))
        go_ret
        exact en_ HB
      ·rw [if_neg c12] at H
       exact absurd H (by simp)
     ·rw [if_neg c11] at H
      exact absurd H (by simp)
    ·rw [if_neg c10] at H
     have c10b0 : (a1_0 == 2) = false := beq_eq_false_iff_ne.mpr c10
     have c10b1 : (a1_0 != 2) = true := bne_iff_ne.mpr c10
     by_cases c20 : a1_0 = 4
     ·rw [if_pos c20] at H
      have c20b0 : (a1_0 == 4) = true := beq_iff_eq.mpr c20
      have c20b1 : (a1_0 != 4) = false := bne_eq_false_iff_eq.mpr c20
      clear c20
      by_cases c21 : 0 ≤ t288
      ·rw [if_pos c21] at H
       have c21b0 : decide (0 ≤ t288) = true := decide_eq_true c21
       clear c21
       by_cases c22 : t288 < (l0.length : Int)
       ·rw [if_pos c22] at H
        have c22b0 : decide (t288 < (l0.length : Int)) = true := decide_eq_true c22
        clear c22
        by_cases c23 : ((rd_T64 l0 t288).f1) = 3
        ·rw [if_pos c23] at H
         have c23b0 : (((rd_T64 l0 t288).f1) == 3) = true := beq_iff_eq.mpr c23
         have c23b1 : (((rd_T64 l0 t288).f1) != 3) = false := bne_eq_false_iff_eq.mpr c23
         clear c23
         have H' := Aside0.mk H
         clear H
         obtain ⟨C24_0, C24_1, C24_2, C24_3, C24_4, C24_5, C24_6, C24_7, C24_8⟩ := cz9_ BK287.out
         obtain ⟨F24_0, F24_1, F24_2, F24_3, F24_4, F24_5, F24_6, F24_7, F24_8⟩ := fz9_ BK287.out
         go_wp2_with (first | (go_at_call 36; (with_reducible refine (firkinref12_Find.calls k _ _ l0 a1_1 t288 _ ?side1 ?side2 A7.out).mono ?_); (case side1 => repeat (first | exact (Kd.C_below HR0.out HB.out) | (with_reducible refine Kd.C_alloc ?_ _) | (with_reducible refine Kd.C_drewN ?_ _) | (with_reducible refine Kd.C_drew ?_))); (case side2 => exact HC0.out); rintro e w' ⟨rfl, ⟨nd, rfl⟩⟩; (try first | exact ⟨rfl, _, World.drewN_drewN _ _ _⟩ | exact ⟨rfl, _, Eq.trans (World.drewN_drewN _ _ _) (congrArg (World.drewN _) (Nat.add_assoc _ _ _))⟩); have p291 : 0 ≤ (t288 : Int) := dt_; have q291 : t288 < (l0.length : Int) := dt_; obtain ⟨ad291, e291, hx291_0, hx291_1, hx291_2⟩ := at_T64 HR0.out t288 p291 q291; cases e291; replace hx291_0 := hc_ HB hx291_0; replace hx291_1 := hc_ HB hx291_1; replace hx291_2 := hc_ HB hx291_2; replace p291 := eq_true p291; replace q291 := eq_true q291))
         repeat (go_quiet (first | (go_at_call 36; (with_reducible refine (firkinref12_Find.calls k _ _ l0 a1_1 t288 _ ?side1 ?side2 A7.out).mono ?_); (case side1 => repeat (first | exact (Kd.C_below HR0.out HB.out) | (with_reducible refine Kd.C_alloc ?_ _) | (with_reducible refine Kd.C_drewN ?_ _) | (with_reducible refine Kd.C_drew ?_))); (case side2 => exact HC0.out); rintro e w' ⟨rfl, ⟨nd, rfl⟩⟩; (try first | exact ⟨rfl, _, World.drewN_drewN _ _ _⟩ | exact ⟨rfl, _, Eq.trans (World.drewN_drewN _ _ _) (congrArg (World.drewN _) (Nat.add_assoc _ _ _))⟩); have p291 : 0 ≤ (t288 : Int) := dt_; have q291 : t288 < (l0.length : Int) := dt_; obtain ⟨ad291, e291, hx291_0, hx291_1, hx291_2⟩ := at_T64 HR0.out t288 p291 q291; cases e291; replace hx291_0 := hc_ HB hx291_0; replace hx291_1 := hc_ HB hx291_1; replace hx291_2 := hc_ HB hx291_2; replace p291 := eq_true p291; replace q291 := eq_true q291)); try go_wp2_with (first | (go_at_call 36; (with_reducible refine (firkinref12_Find.calls k _ _ l0 a1_1 t288 _ ?side1 ?side2 A7.out).mono ?_); (case side1 => repeat (first | exact (Kd.C_below HR0.out HB.out) | (with_reducible refine Kd.C_alloc ?_ _) | (with_reducible refine Kd.C_drewN ?_ _) | (with_reducible refine Kd.C_drew ?_))); (case side2 => exact HC0.out); rintro e w' ⟨rfl, ⟨nd, rfl⟩⟩; (try first | exact ⟨rfl, _, World.drewN_drewN _ _ _⟩ | exact ⟨rfl, _, Eq.trans (World.drewN_drewN _ _ _) (congrArg (World.drewN _) (Nat.add_assoc _ _ _))⟩); have p291 : 0 ≤ (t288 : Int) := dt_; have q291 : t288 < (l0.length : Int) := dt_; obtain ⟨ad291, e291, hx291_0, hx291_1, hx291_2⟩ := at_T64 HR0.out t288 p291 q291; cases e291; replace hx291_0 := hc_ HB hx291_0; replace hx291_1 := hc_ HB hx291_1; replace hx291_2 := hc_ HB hx291_2; replace p291 := eq_true p291; replace q291 := eq_true q291)))
         go_meet
         case rel => exact ⟨_, H', ⟨by first | omega | exact Nat.le_refl _⟩, ⟨by (with_reducible repeat (first | refine blk_drewN ?_ _ | refine blk_drew ?_ | refine blk_alloc ?_ _)); exact BK287.out⟩, ⟨by repeat (first | (with_reducible first | exact HB.out | apply below_alloc | apply pw_below_drewN | apply below_drew1 | refine below_set ?_ GE287.out) | exact HB.out)⟩⟩
        ·rw [if_neg c23] at H
         have c23b0 : (((rd_T64 l0 t288).f1) == 3) = false := beq_eq_false_iff_ne.mpr c23
         have c23b1 : (((rd_T64 l0 t288).f1) != 3) = true := bne_iff_ne.mpr c23
         obtain rfl := Option.some.inj H
         obtain ⟨C25_0, C25_1, C25_2, C25_3, C25_4, C25_5, C25_6, C25_7, C25_8⟩ := cz9_ BK287.out
         obtain ⟨F25_0, F25_1, F25_2, F25_3, F25_4, F25_5, F25_6, F25_7, F25_8⟩ := fz9_ BK287.out
         go_wp2_with (first | (go_at_call 36; (with_reducible refine (firkinref12_Find.calls k _ _ l0 a1_1 t288 _ ?side1 ?side2 A7.out).mono ?_); (case side1 => repeat (first | exact (Kd.C_below HR0.out HB.out) | (with_reducible refine Kd.C_alloc ?_ _) | (with_reducible refine Kd.C_drewN ?_ _) | (with_reducible refine Kd.C_drew ?_))); (case side2 => exact HC0.out); rintro e w' ⟨rfl, ⟨nd, rfl⟩⟩; (try first | exact ⟨rfl, _, World.drewN_drewN _ _ _⟩ | exact ⟨rfl, _, Eq.trans (World.drewN_drewN _ _ _) (congrArg (World.drewN _) (Nat.add_assoc _ _ _))⟩); have p291 : 0 ≤ (t288 : Int) := dt_; have q291 : t288 < (l0.length : Int) := dt_; obtain ⟨ad291, e291, hx291_0, hx291_1, hx291_2⟩ := at_T64 HR0.out t288 p291 q291; cases e291; replace hx291_0 := hc_ HB hx291_0; replace hx291_1 := hc_ HB hx291_1; replace hx291_2 := hc_ HB hx291_2; replace p291 := eq_true p291; replace q291 := eq_true q291))
         repeat (go_quiet (first | (go_at_call 36; (with_reducible refine (firkinref12_Find.calls k _ _ l0 a1_1 t288 _ ?side1 ?side2 A7.out).mono ?_); (case side1 => repeat (first | exact (Kd.C_below HR0.out HB.out) | (with_reducible refine Kd.C_alloc ?_ _) | (with_reducible refine Kd.C_drewN ?_ _) | (with_reducible refine Kd.C_drew ?_))); (case side2 => exact HC0.out); rintro e w' ⟨rfl, ⟨nd, rfl⟩⟩; (try first | exact ⟨rfl, _, World.drewN_drewN _ _ _⟩ | exact ⟨rfl, _, Eq.trans (World.drewN_drewN _ _ _) (congrArg (World.drewN _) (Nat.add_assoc _ _ _))⟩); have p291 : 0 ≤ (t288 : Int) := dt_; have q291 : t288 < (l0.length : Int) := dt_; obtain ⟨ad291, e291, hx291_0, hx291_1, hx291_2⟩ := at_T64 HR0.out t288 p291 q291; cases e291; replace hx291_0 := hc_ HB hx291_0; replace hx291_1 := hc_ HB hx291_1; replace hx291_2 := hc_ HB hx291_2; replace p291 := eq_true p291; replace q291 := eq_true q291)); try go_wp2_with (first | (go_at_call 36; (with_reducible refine (firkinref12_Find.calls k _ _ l0 a1_1 t288 _ ?side1 ?side2 A7.out).mono ?_); (case side1 => repeat (first | exact (Kd.C_below HR0.out HB.out) | (with_reducible refine Kd.C_alloc ?_ _) | (with_reducible refine Kd.C_drewN ?_ _) | (with_reducible refine Kd.C_drew ?_))); (case side2 => exact HC0.out); rintro e w' ⟨rfl, ⟨nd, rfl⟩⟩; (try first | exact ⟨rfl, _, World.drewN_drewN _ _ _⟩ | exact ⟨rfl, _, Eq.trans (World.drewN_drewN _ _ _) (congrArg (World.drewN _) (Nat.add_assoc _ _ _))⟩); have p291 : 0 ≤ (t288 : Int) := dt_; have q291 : t288 < (l0.length : Int) := dt_; obtain ⟨ad291, e291, hx291_0, hx291_1, hx291_2⟩ := at_T64 HR0.out t288 p291 q291; cases e291; replace hx291_0 := hc_ HB hx291_0; replace hx291_1 := hc_ HB hx291_1; replace hx291_2 := hc_ HB hx291_2; replace p291 := eq_true p291; replace q291 := eq_true q291)))
         go_ret
         exact en_ HB
       ·rw [if_neg c22] at H
        exact absurd H (by simp)
      ·rw [if_neg c21] at H
       exact absurd H (by simp)
     ·rw [if_neg c20] at H
      have c20b0 : (a1_0 == 4) = false := beq_eq_false_iff_ne.mpr c20
      have c20b1 : (a1_0 != 4) = true := bne_iff_ne.mpr c20
      have H' := Aside0.mk H
      clear H
      obtain ⟨C26_0, C26_1, C26_2, C26_3, C26_4, C26_5, C26_6, C26_7, C26_8⟩ := cz9_ BK287.out
      obtain ⟨F26_0, F26_1, F26_2, F26_3, F26_4, F26_5, F26_6, F26_7, F26_8⟩ := fz9_ BK287.out
      go_wp2_with (first | (go_at_call 36; (with_reducible refine (firkinref12_Find.calls k _ _ l0 a1_1 t288 _ ?side1 ?side2 A7.out).mono ?_); (case side1 => repeat (first | exact (Kd.C_below HR0.out HB.out) | (with_reducible refine Kd.C_alloc ?_ _) | (with_reducible refine Kd.C_drewN ?_ _) | (with_reducible refine Kd.C_drew ?_))); (case side2 => exact HC0.out); rintro e w' ⟨rfl, ⟨nd, rfl⟩⟩; (try first | exact ⟨rfl, _, World.drewN_drewN _ _ _⟩ | exact ⟨rfl, _, Eq.trans (World.drewN_drewN _ _ _) (congrArg (World.drewN _) (Nat.add_assoc _ _ _))⟩)))
      repeat (go_quiet (first | (go_at_call 36; (with_reducible refine (firkinref12_Find.calls k _ _ l0 a1_1 t288 _ ?side1 ?side2 A7.out).mono ?_); (case side1 => repeat (first | exact (Kd.C_below HR0.out HB.out) | (with_reducible refine Kd.C_alloc ?_ _) | (with_reducible refine Kd.C_drewN ?_ _) | (with_reducible refine Kd.C_drew ?_))); (case side2 => exact HC0.out); rintro e w' ⟨rfl, ⟨nd, rfl⟩⟩; (try first | exact ⟨rfl, _, World.drewN_drewN _ _ _⟩ | exact ⟨rfl, _, Eq.trans (World.drewN_drewN _ _ _) (congrArg (World.drewN _) (Nat.add_assoc _ _ _))⟩))); try go_wp2_with (first | (go_at_call 36; (with_reducible refine (firkinref12_Find.calls k _ _ l0 a1_1 t288 _ ?side1 ?side2 A7.out).mono ?_); (case side1 => repeat (first | exact (Kd.C_below HR0.out HB.out) | (with_reducible refine Kd.C_alloc ?_ _) | (with_reducible refine Kd.C_drewN ?_ _) | (with_reducible refine Kd.C_drew ?_))); (case side2 => exact HC0.out); rintro e w' ⟨rfl, ⟨nd, rfl⟩⟩; (try first | exact ⟨rfl, _, World.drewN_drewN _ _ _⟩ | exact ⟨rfl, _, Eq.trans (World.drewN_drewN _ _ _) (congrArg (World.drewN _) (Nat.add_assoc _ _ _))⟩))))
      go_meet
      case rel => exact ⟨_, H', ⟨by first | omega | exact Nat.le_refl _⟩, ⟨by (with_reducible repeat (first | refine blk_drewN ?_ _ | refine blk_drew ?_ | refine blk_alloc ?_ _)); exact BK287.out⟩, ⟨by repeat (first | (with_reducible first | exact HB.out | apply below_alloc | apply pw_below_drewN | apply below_drew1 | refine below_set ?_ GE287.out) | exact HB.out)⟩⟩
 case rest =>
  clear HC3
  try clear c1
  try clear c2
  try clear p2
  try clear q2
  try clear hx2
  try clear c5
  try clear c6
  try clear c6b0
  try clear c6b1
  try clear c6b2
  try clear c8
  try clear c8b0
  try clear c10
  try clear c10b0
  try clear c10b1
  try clear c11
  try clear c11b0
  try clear c12
  try clear c12b0
  try clear c13
  try clear c13b0
  try clear c13b1
  try clear c14
  try clear c14b0
  try clear c14b1
  try clear c15
  try clear c15b0
  try clear c15b1
  try clear c20
  try clear c20b0
  try clear c20b1
  try clear c21
  try clear c21b0
  try clear c22
  try clear c22b0
  try clear c23
  try clear c23b0
  try clear c23b1
  try clear C16_0 C16_1 C16_2 C16_3 C16_4 C16_5 C16_6 C16_7 C16_8
  try clear C17_0 C17_1 C17_2 C17_3 C17_4 C17_5 C17_6 C17_7 C17_8
  try clear C18_0 C18_1 C18_2 C18_3 C18_4 C18_5 C18_6 C18_7 C18_8
  try clear C19_0 C19_1 C19_2 C19_3 C19_4 C19_5 C19_6 C19_7 C19_8
  try clear C24_0 C24_1 C24_2 C24_3 C24_4 C24_5 C24_6 C24_7 C24_8
  try clear C25_0 C25_1 C25_2 C25_3 C25_4 C25_5 C25_6 C25_7 C25_8
  try clear C26_0 C26_1 C26_2 C26_3 C26_4 C26_5 C26_6 C26_7 C26_8
  try clear C5_0 C5_1 C5_2 C5_3 C5_4 C5_5 C5_6 C5_7 C5_8
  try clear C9_0 C9_1 C9_2 C9_3 C9_4 C9_5 C9_6 C9_7 C9_8
  try clear F16_0 F16_1 F16_2 F16_3 F16_4 F16_5 F16_6 F16_7 F16_8
  try clear F17_0 F17_1 F17_2 F17_3 F17_4 F17_5 F17_6 F17_7 F17_8
  try clear F18_0 F18_1 F18_2 F18_3 F18_4 F18_5 F18_6 F18_7 F18_8
  try clear F19_0 F19_1 F19_2 F19_3 F19_4 F19_5 F19_6 F19_7 F19_8
  try clear F24_0 F24_1 F24_2 F24_3 F24_4 F24_5 F24_6 F24_7 F24_8
  try clear F25_0 F25_1 F25_2 F25_3 F25_4 F25_5 F25_6 F25_7 F25_8
  try clear F26_0 F26_1 F26_2 F26_3 F26_4 F26_5 F26_6 F26_7 F26_8
  try clear F5_0 F5_1 F5_2 F5_3 F5_4 F5_5 F5_6 F5_7 F5_8
  try clear F9_0 F9_1 F9_2 F9_3 F9_4 F9_5 F9_6 F9_7 F9_8
  try clear hx289_0
  try clear hx289_1
  try clear hx289_2
  try clear hx290_0
  try clear hx290_1
  try clear hx290_2
  try clear hx291_0
  try clear hx291_1
  try clear hx291_2
  try clear p289
  try clear p290
  try clear p291
  try clear q289
  try clear q290
  try clear q291
  obtain ⟨kq, HA, HJ2, BK287, HB⟩ := hcut
  cases kq with
  | zero => exact absurd HA.out (by simp [firkinref17_typed.j0])
  | succ kj2 =>
   have H := HA.out
   clear HA
   simp only [firkinref17_typed.j0] at H
   have H' := Aside0.mk H
   clear H
   go_wp2
   repeat (go_quiet (fail); try go_wp2)
   go_loopg [6] kj2 (fun kq v6 w' => ∃ (x6_2 : Int), v6 = .int .i64 x6_2 ∧ Aside0 (firkinref17_typed.l0 kq l0 x6_2 a1_0 a1_1 a1_2 a1_3 a1_4 a1_5 a1_6 a1_7 l1_8 = some r) ∧ Aside0 (kq ≤ kj2) ∧ Aside0 (w'.heap[gb287]? = some (.cells #[.int .i64 a1_0, .string a1_1, .int .i64 a1_2, .bool a1_3, .int .i64 a1_4, .string a1_5, .int .i64 a1_6, .string a1_7, (.slice A1_8 l1_8.length c1_8)] 27 (0, 0))) ∧ Aside0 (Below w.heap.size w w'))
   case atStart => exact ⟨_, (by first | rfl | (simp; done) | (simp [*]; done)), H', ⟨Nat.le_refl _⟩, ⟨by (with_reducible repeat (first | refine blk_drewN ?_ _ | refine blk_drew ?_ | refine blk_alloc ?_ _)); exact BK287.out⟩, ⟨by repeat (first | (with_reducible first | exact HB.out | apply below_alloc | apply pw_below_drewN | apply below_drew1 | refine below_set ?_ GE287.out) | exact HB.out)⟩⟩
   case round =>
    clear H'
    try clear c1
    try clear c2
    try clear p2
    try clear q2
    try clear hx2
    try clear c5
    try clear c6
    try clear c6b0
    try clear c6b1
    try clear c6b2
    try clear c8
    try clear c8b0
    try clear c10
    try clear c10b0
    try clear c10b1
    try clear c11
    try clear c11b0
    try clear c12
    try clear c12b0
    try clear c13
    try clear c13b0
    try clear c13b1
    try clear c14
    try clear c14b0
    try clear c14b1
    try clear c15
    try clear c15b0
    try clear c15b1
    try clear c20
    try clear c20b0
    try clear c20b1
    try clear c21
    try clear c21b0
    try clear c22
    try clear c22b0
    try clear c23
    try clear c23b0
    try clear c23b1
    try clear C16_0 C16_1 C16_2 C16_3 C16_4 C16_5 C16_6 C16_7 C16_8
    try clear C17_0 C17_1 C17_2 C17_3 C17_4 C17_5 C17_6 C17_7 C17_8
    try clear C18_0 C18_1 C18_2 C18_3 C18_4 C18_5 C18_6 C18_7 C18_8
    try clear C19_0 C19_1 C19_2 C19_3 C19_4 C19_5 C19_6 C19_7 C19_8
    try clear C24_0 C24_1 C24_2 C24_3 C24_4 C24_5 C24_6 C24_7 C24_8
    try clear C25_0 C25_1 C25_2 C25_3 C25_4 C25_5 C25_6 C25_7 C25_8
    try clear C26_0 C26_1 C26_2 C26_3 C26_4 C26_5 C26_6 C26_7 C26_8
    try clear C5_0 C5_1 C5_2 C5_3 C5_4 C5_5 C5_6 C5_7 C5_8
    try clear C9_0 C9_1 C9_2 C9_3 C9_4 C9_5 C9_6 C9_7 C9_8
    try clear F16_0 F16_1 F16_2 F16_3 F16_4 F16_5 F16_6 F16_7 F16_8
    try clear F17_0 F17_1 F17_2 F17_3 F17_4 F17_5 F17_6 F17_7 F17_8
    try clear F18_0 F18_1 F18_2 F18_3 F18_4 F18_5 F18_6 F18_7 F18_8
    try clear F19_0 F19_1 F19_2 F19_3 F19_4 F19_5 F19_6 F19_7 F19_8
    try clear F24_0 F24_1 F24_2 F24_3 F24_4 F24_5 F24_6 F24_7 F24_8
    try clear F25_0 F25_1 F25_2 F25_3 F25_4 F25_5 F25_6 F25_7 F25_8
    try clear F26_0 F26_1 F26_2 F26_3 F26_4 F26_5 F26_6 F26_7 F26_8
    try clear F5_0 F5_1 F5_2 F5_3 F5_4 F5_5 F5_6 F5_7 F5_8
    try clear F9_0 F9_1 F9_2 F9_3 F9_4 F9_5 F9_6 F9_7 F9_8
    try clear hx289_0
    try clear hx289_1
    try clear hx289_2
    try clear hx290_0
    try clear hx290_1
    try clear hx290_2
    try clear hx291_0
    try clear hx291_1
    try clear hx291_2
    try clear p2
    try clear p289
    try clear p290
    try clear p291
    try clear q2
    try clear q289
    try clear q290
    try clear q291
    obtain ⟨x6_2, rfl, HA, HK2, BK287, HB⟩ := hrel
    cases gk with
    | zero => exact absurd HA.out (by simp [firkinref17_typed.l0])
    | succ k2 =>
     have H := HA.out
     clear HA
     simp only [firkinref17_typed.l0] at H
     by_cases c27 : x6_2 < (l1_8.length : Int)
     ·rw [if_pos c27] at H
      have c27b0 : decide (x6_2 < (l1_8.length : Int)) = true := decide_eq_true c27
      clear c27
      by_cases c28 : 0 ≤ x6_2
      ·rw [if_pos c28] at H
       have c28b0 : decide (0 ≤ x6_2) = true := decide_eq_true c28
       clear c28
       replace H := Option.bind_eq_some_iff.mp H
       obtain ⟨t293, A290, H⟩ := H
       replace H : (if t293 = true then (firkinref17_typed.l0 k2 l0 (wrap64 (x6_2 + 1)) a1_0 a1_1 a1_2 a1_3 a1_4 a1_5 a1_6 a1_7 l1_8) else (some false)) = some r := H
       have A29 := Aside0.mk A290
       clear A290
       by_cases c30 : t293 = true
       ·subst c30
        have H1 : (firkinref17_typed.l0 k2 l0 (wrap64 (x6_2 + 1)) a1_0 a1_1 a1_2 a1_3 a1_4 a1_5 a1_6 a1_7 l1_8) = some r := by rw [if_pos rfl] at H; exact H
        clear H
        have H := H1
        clear H1
        have H' := Aside0.mk H
        clear H
        obtain ⟨C31_0, C31_1, C31_2, C31_3, C31_4, C31_5, C31_6, C31_7, C31_8⟩ := cz9_ BK287.out
        obtain ⟨F31_0, F31_1, F31_2, F31_3, F31_4, F31_5, F31_6, F31_7, F31_8⟩ := fz9_ BK287.out
        have p292 : 0 ≤ (x6_2 : Int) := dt_
        have q292 : x6_2 < (l1_8.length : Int) := dt_
        obtain ⟨ad292, A292_8, c292_8, e292, hx292_0, hx292_1, hx292_2, hx292_3, hx292_4, hx292_5, hx292_6, hx292_7, hx292_8, hl292_8, hi292_8⟩ := at_T27 HR1_8.out x6_2 p292 q292
        cases e292
        replace hx292_0 := hc_ HB hx292_0
        replace hx292_1 := hc_ HB hx292_1
        replace hx292_2 := hc_ HB hx292_2
        replace hx292_3 := hc_ HB hx292_3
        replace hx292_4 := hc_ HB hx292_4
        replace hx292_5 := hc_ HB hx292_5
        replace hx292_6 := hc_ HB hx292_6
        replace hx292_7 := hc_ HB hx292_7
        replace hx292_8 := hc_ HB hx292_8
        have HR292_8 := Aside0.mk hi292_8
        have HC292_8 := Aside0.mk hl292_8
        clear hi292_8 hl292_8
        replace p292 := eq_true p292
        replace q292 := eq_true q292
        go_wp2_with (first | (go_at_call 56; (with_reducible refine (ih k2 (by have := HJ2.out; have := HK2.out; omega) _ _ l0 ((rd_T27 l1_8 x6_2).f0) ((rd_T27 l1_8 x6_2).f1) ((rd_T27 l1_8 x6_2).f2) ((rd_T27 l1_8 x6_2).f3.f0) ((rd_T27 l1_8 x6_2).f3.f1) ((rd_T27 l1_8 x6_2).f3.f2) ((rd_T27 l1_8 x6_2).f4) ((rd_T27 l1_8 x6_2).f5) _ _ ((rd_T27 l1_8 x6_2).f6) true _ ?side1 ?side2 ?side3 ?side4 A29.out).mono ?_); (case side1 => repeat (first | exact (Kd.C_below HR0.out HB.out) | (with_reducible refine Kd.C_alloc ?_ _) | (with_reducible refine Kd.C_drewN ?_ _) | (with_reducible refine Kd.C_drew ?_))); (case side2 => exact HC0.out); (case side3 => repeat (first | exact (Kd.C_below HR292_8.out HB.out) | (with_reducible refine Kd.C_alloc ?_ _) | (with_reducible refine Kd.C_drewN ?_ _) | (with_reducible refine Kd.C_drew ?_))); (case side4 => exact HC292_8.out); rintro e w32 ⟨rfl, hb⟩;  replace BK287 := bk_ BK287 hb; replace HB := bs_ HB hb; (try clear hb)))
        repeat (go_quiet (first | (go_at_call 56; (with_reducible refine (ih k2 (by have := HJ2.out; have := HK2.out; omega) _ _ l0 ((rd_T27 l1_8 x6_2).f0) ((rd_T27 l1_8 x6_2).f1) ((rd_T27 l1_8 x6_2).f2) ((rd_T27 l1_8 x6_2).f3.f0) ((rd_T27 l1_8 x6_2).f3.f1) ((rd_T27 l1_8 x6_2).f3.f2) ((rd_T27 l1_8 x6_2).f4) ((rd_T27 l1_8 x6_2).f5) _ _ ((rd_T27 l1_8 x6_2).f6) true _ ?side1 ?side2 ?side3 ?side4 A29.out).mono ?_); (case side1 => repeat (first | exact (Kd.C_below HR0.out HB.out) | (with_reducible refine Kd.C_alloc ?_ _) | (with_reducible refine Kd.C_drewN ?_ _) | (with_reducible refine Kd.C_drew ?_))); (case side2 => exact HC0.out); (case side3 => repeat (first | exact (Kd.C_below HR292_8.out HB.out) | (with_reducible refine Kd.C_alloc ?_ _) | (with_reducible refine Kd.C_drewN ?_ _) | (with_reducible refine Kd.C_drew ?_))); (case side4 => exact HC292_8.out); rintro e w32 ⟨rfl, hb⟩;  replace BK287 := bk_ BK287 hb; replace HB := bs_ HB hb; (try clear hb))); try go_wp2_with (first | (go_at_call 56; (with_reducible refine (ih k2 (by have := HJ2.out; have := HK2.out; omega) _ _ l0 ((rd_T27 l1_8 x6_2).f0) ((rd_T27 l1_8 x6_2).f1) ((rd_T27 l1_8 x6_2).f2) ((rd_T27 l1_8 x6_2).f3.f0) ((rd_T27 l1_8 x6_2).f3.f1) ((rd_T27 l1_8 x6_2).f3.f2) ((rd_T27 l1_8 x6_2).f4) ((rd_T27 l1_8 x6_2).f5) _ _ ((rd_T27 l1_8 x6_2).f6) true _ ?side1 ?side2 ?side3 ?side4 A29.out).mono ?_); (case side1 => repeat (first | exact (Kd.C_below HR0.out HB.out) | (with_reducible refine Kd.C_alloc ?_ _) | (with_reducible refine Kd.C_drewN ?_ _) | (with_reducible refine Kd.C_drew ?_))); (case side2 => exact HC0.out); (case side3 => repeat (first | exact (Kd.C_below HR292_8.out HB.out) | (with_reducible refine Kd.C_alloc ?_ _) | (with_reducible refine Kd.C_drewN ?_ _) | (with_reducible refine Kd.C_drew ?_))); (case side4 => exact HC292_8.out); rintro e w32 ⟨rfl, hb⟩;  replace BK287 := bk_ BK287 hb; replace HB := bs_ HB hb; (try clear hb))))
        go_roundg k2
        case measure => have := HJ2.out; have := HK2.out; omega
        case rel => exact ⟨_, (by first | rfl | (simp; done) | (simp [*]; done)), H', ⟨by have := HJ2.out; have := HK2.out; omega⟩, ⟨by (with_reducible repeat (first | refine blk_drewN ?_ _ | refine blk_drew ?_ | refine blk_alloc ?_ _)); exact BK287.out⟩, ⟨by repeat (first | (with_reducible first | exact HB.out | apply below_alloc | apply pw_below_drewN | apply below_drew1 | refine below_set ?_ GE287.out) | exact HB.out)⟩⟩
       ·replace c30 := Bool.eq_false_iff.mpr c30
        subst c30
        have H1 : (some false) = some r := by rw [if_neg (show ¬ (false = true) by decide)] at H; exact H
        clear H
        have H := H1
        clear H1
        obtain rfl := Option.some.inj H
        obtain ⟨C33_0, C33_1, C33_2, C33_3, C33_4, C33_5, C33_6, C33_7, C33_8⟩ := cz9_ BK287.out
        obtain ⟨F33_0, F33_1, F33_2, F33_3, F33_4, F33_5, F33_6, F33_7, F33_8⟩ := fz9_ BK287.out
        have p292 : 0 ≤ (x6_2 : Int) := dt_
        have q292 : x6_2 < (l1_8.length : Int) := dt_
        obtain ⟨ad292, A292_8, c292_8, e292, hx292_0, hx292_1, hx292_2, hx292_3, hx292_4, hx292_5, hx292_6, hx292_7, hx292_8, hl292_8, hi292_8⟩ := at_T27 HR1_8.out x6_2 p292 q292
        cases e292
        replace hx292_0 := hc_ HB hx292_0
        replace hx292_1 := hc_ HB hx292_1
        replace hx292_2 := hc_ HB hx292_2
        replace hx292_3 := hc_ HB hx292_3
        replace hx292_4 := hc_ HB hx292_4
        replace hx292_5 := hc_ HB hx292_5
        replace hx292_6 := hc_ HB hx292_6
        replace hx292_7 := hc_ HB hx292_7
        replace hx292_8 := hc_ HB hx292_8
        have HR292_8 := Aside0.mk hi292_8
        have HC292_8 := Aside0.mk hl292_8
        clear hi292_8 hl292_8
        replace p292 := eq_true p292
        replace q292 := eq_true q292
        go_wp2_with (first | (go_at_call 56; (with_reducible refine (ih k2 (by have := HJ2.out; have := HK2.out; omega) _ _ l0 ((rd_T27 l1_8 x6_2).f0) ((rd_T27 l1_8 x6_2).f1) ((rd_T27 l1_8 x6_2).f2) ((rd_T27 l1_8 x6_2).f3.f0) ((rd_T27 l1_8 x6_2).f3.f1) ((rd_T27 l1_8 x6_2).f3.f2) ((rd_T27 l1_8 x6_2).f4) ((rd_T27 l1_8 x6_2).f5) _ _ ((rd_T27 l1_8 x6_2).f6) false _ ?side1 ?side2 ?side3 ?side4 A29.out).mono ?_); (case side1 => repeat (first | exact (Kd.C_below HR0.out HB.out) | (with_reducible refine Kd.C_alloc ?_ _) | (with_reducible refine Kd.C_drewN ?_ _) | (with_reducible refine Kd.C_drew ?_))); (case side2 => exact HC0.out); (case side3 => repeat (first | exact (Kd.C_below HR292_8.out HB.out) | (with_reducible refine Kd.C_alloc ?_ _) | (with_reducible refine Kd.C_drewN ?_ _) | (with_reducible refine Kd.C_drew ?_))); (case side4 => exact HC292_8.out); rintro e w34 ⟨rfl, hb⟩;  replace BK287 := bk_ BK287 hb; replace HB := bs_ HB hb; (try clear hb)))
        repeat (go_quiet (first | (go_at_call 56; (with_reducible refine (ih k2 (by have := HJ2.out; have := HK2.out; omega) _ _ l0 ((rd_T27 l1_8 x6_2).f0) ((rd_T27 l1_8 x6_2).f1) ((rd_T27 l1_8 x6_2).f2) ((rd_T27 l1_8 x6_2).f3.f0) ((rd_T27 l1_8 x6_2).f3.f1) ((rd_T27 l1_8 x6_2).f3.f2) ((rd_T27 l1_8 x6_2).f4) ((rd_T27 l1_8 x6_2).f5) _ _ ((rd_T27 l1_8 x6_2).f6) false _ ?side1 ?side2 ?side3 ?side4 A29.out).mono ?_); (case side1 => repeat (first | exact (Kd.C_below HR0.out HB.out) | (with_reducible refine Kd.C_alloc ?_ _) | (with_reducible refine Kd.C_drewN ?_ _) | (with_reducible refine Kd.C_drew ?_))); (case side2 => exact HC0.out); (case side3 => repeat (first | exact (Kd.C_below HR292_8.out HB.out) | (with_reducible refine Kd.C_alloc ?_ _) | (with_reducible refine Kd.C_drewN ?_ _) | (with_reducible refine Kd.C_drew ?_))); (case side4 => exact HC292_8.out); rintro e w34 ⟨rfl, hb⟩;  replace BK287 := bk_ BK287 hb; replace HB := bs_ HB hb; (try clear hb))); try go_wp2_with (first | (go_at_call 56; (with_reducible refine (ih k2 (by have := HJ2.out; have := HK2.out; omega) _ _ l0 ((rd_T27 l1_8 x6_2).f0) ((rd_T27 l1_8 x6_2).f1) ((rd_T27 l1_8 x6_2).f2) ((rd_T27 l1_8 x6_2).f3.f0) ((rd_T27 l1_8 x6_2).f3.f1) ((rd_T27 l1_8 x6_2).f3.f2) ((rd_T27 l1_8 x6_2).f4) ((rd_T27 l1_8 x6_2).f5) _ _ ((rd_T27 l1_8 x6_2).f6) false _ ?side1 ?side2 ?side3 ?side4 A29.out).mono ?_); (case side1 => repeat (first | exact (Kd.C_below HR0.out HB.out) | (with_reducible refine Kd.C_alloc ?_ _) | (with_reducible refine Kd.C_drewN ?_ _) | (with_reducible refine Kd.C_drew ?_))); (case side2 => exact HC0.out); (case side3 => repeat (first | exact (Kd.C_below HR292_8.out HB.out) | (with_reducible refine Kd.C_alloc ?_ _) | (with_reducible refine Kd.C_drewN ?_ _) | (with_reducible refine Kd.C_drew ?_))); (case side4 => exact HC292_8.out); rintro e w34 ⟨rfl, hb⟩;  replace BK287 := bk_ BK287 hb; replace HB := bs_ HB hb; (try clear hb))))
        go_ret
        exact en_ HB
      ·rw [if_neg c28] at H
       exact absurd H (by simp)
     ·rw [if_neg c27] at H
      have c27b0 : decide (x6_2 < (l1_8.length : Int)) = false := decide_eq_false c27
      clear c27
      obtain rfl := Option.some.inj H
      obtain ⟨C35_0, C35_1, C35_2, C35_3, C35_4, C35_5, C35_6, C35_7, C35_8⟩ := cz9_ BK287.out
      obtain ⟨F35_0, F35_1, F35_2, F35_3, F35_4, F35_5, F35_6, F35_7, F35_8⟩ := fz9_ BK287.out
      go_wp2
      repeat (go_quiet (fail); try go_wp2)
      go_ret
      exact en_ HB
end Go.Proofs.Ytdedmhmomoejkaa.X
namespace Go.Proofs.Ytdedmhmomoejkaa.X
open Go.RowKit Go.Proofs.YtdedmhmomoejkaaW.PrintWords Go.Proofs.YtdedmhmomoejkaaW.PrintLast
set_option linter.unusedVariables false
set_option linter.unusedSimpArgs false
theorem find12 (l : List S64) (s : ByteArray) (hl : l.length ≤ 9223372036854775806) : TotP (fun r => r = idxOf (fun y : S64 => y.f0.toList == s.toList) l) (fun k => firkinref12_Find.f k l s) := by
  have key : ∀ (n i : Nat), i + n = l.length → (∀ (j : Nat) (y : S64), j < i → l[j]? = some y → (y.f0.toList == s.toList) = false) → TotP (fun r => r = idxOf (fun y : S64 => y.f0.toList == s.toList) l) (fun k => firkinref12_Find.l0 k l s (i : Int)) := by
    intro n
    induction n with
    | zero =>
      intro i hi hall
      refine TotP.succ (fun k => by simp only [firkinref12_Find.l0]; rfl) ?_
      refine TotP.ite (fun h => absurd h (by omega)) (fun _ => TotP.some_ ?_)
      rw [idxOf_miss]
      exact fun j y hj => hall j y (by have := (List.getElem?_eq_some_iff.1 hj).1; omega) hj
    | succ n ih =>
      intro i hi hall
      have hlt : i < l.length := by omega
      refine TotP.succ (fun k => by simp only [firkinref12_Find.l0]; rfl) ?_
      refine TotP.ite (fun _ => ?_) (fun h => absurd (by omega) h)
      refine TotP.ite (fun _ => ?_) (fun h => absurd (by omega) h)
      rw [rd64_get l i hlt]
      refine TotP.ite (fun he => TotP.some_ ?_) (fun he => ?_)
      · rw [idxOf_hit _ l i l[i] (List.getElem?_eq_getElem hlt) (by simpa using he) hall]
      · rw [wrap_in (by omega) (by omega), show (i : Int) + 1 = ((i + 1 : Nat) : Int) by omega]
        refine ih (i + 1) (by omega) (fun j y hj hy => ?_)
        by_cases e : j = i
        · subst e
          rw [List.getElem?_eq_getElem hlt] at hy
          injection hy with hy
          subst hy
          simpa using he
        · exact hall j y (by omega) hy
  have := key l.length 0 (by omega) (fun j y hj => absurd hj (Nat.not_lt_zero _))
  unfold firkinref12_Find.f
  simpa using this
theorem ev_typed (l : List S64) : ∀ (d : Nat) (x : S27), (∃ c, cnt d x = some c) → ((ev (typedStep l) d x ()).1 = true ↔ AllL (typedB l) d x) := by
  intro d
  induction d with
  | zero => rintro x ⟨c, hc⟩; simp [cnt] at hc
  | succ d ih =>
    rintro x ⟨c, hc⟩
    obtain ⟨a, ha, _⟩ := Option.bind_eq_some_iff.1 hc
    have key : ∀ (r : List S27), (∀ y, y ∈ r → ∃ c, cnt d y = some c) → ((evL (ev (typedStep l) d) r ()).1 = true ↔ ∀ y, y ∈ r → AllL (typedB l) d y) := by
      intro r
      induction r with
      | nil => intro _; simp [evL]
      | cons y r ihr =>
        intro h
        unfold evL
        have h1 := ih y (h y (by simp))
        have h2 := ihr (fun z hz => h z (by simp [hz]))
        cases hb : (ev (typedStep l) d y ()).1 with
        | false =>
          rw [hb] at h1
          simp only [Bool.false_eq_true, false_iff] at h1
          simp [h1]
        | true =>
          rw [hb] at h1
          have h1' := h1.1 rfl
          simp only [if_true]
          rw [h2]
          exact ⟨fun h z hz => by rcases List.mem_cons.1 hz with rfl | hz; exact h1'; exact h z hz, fun h z hz => h z (by simp [hz])⟩
    have hk := key x.f6 (cntL_mem _ _ _ ha)
    unfold ev
    simp only [typedStep, AllL]
    by_cases hb : typedB l x = true
    · simp only [hb, if_true, true_and]
      exact hk
    · simp [hb]
theorem typed17 (l : List S64) (hl : l.length ≤ 9223372036854775806) : ∀ (d : Nat) (x : S27), Fine d x → (∃ c, cnt d x = some c) →
    TotP (fun r => r = true ↔ AllL (typedB l) d x) (fun k => firkinref17_typed.f k l x.f0 x.f1 x.f2 x.f3.f0 x.f3.f1 x.f3.f2 x.f4 x.f5 x.f6) := by
  intro d
  induction d with
  | zero => rintro x _ ⟨c, hc⟩; simp [cnt] at hc
  | succ d ih =>
    rintro x ⟨⟨hlen, hs1, hs5, hs3⟩, hfk⟩ ⟨c, hc⟩
    obtain ⟨a, ha, _⟩ := Option.bind_eq_some_iff.1 hc
    have hkid : ∀ y, y ∈ x.f6 → TotP (fun r => r = true ↔ AllL (typedB l) d y) (fun k => firkinref17_typed.f k l y.f0 y.f1 y.f2 y.f3.f0 y.f3.f1 y.f3.f2 y.f4 y.f5 y.f6) := fun y hy => ih y (hfk y hy) (cntL_mem _ _ _ ha y hy)
    have key : ∀ (r : List S27) (i : Nat), x.f6.drop i = r → i ≤ x.f6.length → TotP (fun t => t = true ↔ ∀ y, y ∈ r → AllL (typedB l) d y) (fun k => firkinref17_typed.l0 k l (i : Int) x.f0 x.f1 x.f2 x.f3.f0 x.f3.f1 x.f3.f2 x.f4 x.f5 x.f6) := by
      intro r
      induction r with
      | nil =>
        intro i hr hi
        have hi' : i = x.f6.length := by
          have := congrArg List.length hr
          simp at this
          omega
        refine TotP.succ (fun k => by simp only [firkinref17_typed.l0]; rfl) ?_
        exact TotP.ite (fun h => absurd h (by omega)) (fun _ => TotP.some_ (by simp))
      | cons y r ihr =>
        intro i hr hi
        have hi' : i < x.f6.length := by
          have := congrArg List.length hr
          simp at this
          omega
        have hy : rd_T27 x.f6 (i : Int) = y := by
          have := congrArg List.head? hr
          rw [List.head?_drop] at this
          simp [rd_T27, List.getD_eq_getElem?_getD, this]
        have hr' : x.f6.drop (i + 1) = r := by
          have := congrArg List.tail hr
          simpa using this
        have hmem : y ∈ x.f6 := by rw [← hy]; exact rd27_mem x.f6 i hi'
        refine TotP.succ (fun k => by simp only [firkinref17_typed.l0]; rfl) ?_
        refine TotP.ite (fun _ => ?_) (fun h => absurd (by omega) h)
        refine TotP.ite (fun _ => ?_) (fun h => absurd (by omega) h)
        rw [hy, wrap_in (by omega) (by omega), show (i : Int) + 1 = ((i + 1 : Nat) : Int) by omega]
        refine TotP.bind (hkid y hmem) (fun b hb => ?_)
        refine TotP.ite (fun ht => ?_) (fun ht => TotP.some_ ?_)
        · refine (ihr (i + 1) hr' (by omega)).weak (fun t hh => hh.trans ⟨fun h z hz => ?_, fun h z hz => h z (by simp [hz])⟩)
          rcases List.mem_cons.1 hz with rfl | hz
          · exact hb.1 ht
          · exact h z hz
        · exact ⟨fun h => (by cases h), fun h => absurd (hb.2 (h y (by simp))) ht⟩
    have hk : typedB l x = true → TotP (fun t => t = true ↔ AllL (typedB l) (d + 1) x) (fun k => firkinref17_typed.j0 k l x.f0 x.f1 x.f2 x.f3.f0 x.f3.f1 x.f3.f2 x.f4 x.f5 x.f6) := by
      intro hx
      refine TotP.succ (fun k => by simp only [firkinref17_typed.j0]; rfl) ?_
      have := key x.f6 0 (by simp) (by omega)
      exact this.weak (fun t ht => ht.trans (by simp [AllL, hx]))
    have bad : typedB l x = false → TotP (fun t => t = true ↔ AllL (typedB l) (d + 1) x) (fun _ => some false) := fun h => TotP.some_ (by simp [AllL, h])
    have hts := typed_some l x
    unfold pred_typed.f schema_Find.f at hts
    refine TotP.succ (fun k => by simp only [firkinref17_typed.f]; rfl) ?_
    refine TotP.ite (fun h0 => hk (by rw [if_pos h0] at hts; simpa using hts.symm)) (fun h0 => ?_)
    rw [if_neg h0] at hts
    simp only [Option.bind_some] at hts
    refine TotP.bind (find12 l x.f1 hl) (fun n hn => ?_)
    have hlt := idxOf_lt (fun y : S64 => y.f0.toList == x.f1.toList) l
    generalize idxOf (fun y : S64 => y.f0.toList == x.f1.toList) l = m at hn hlt hts
    subst hn
    refine TotP.ite (fun hm => bad ?_) (fun hm => ?_)
    · rw [decide_eq_false (show ¬ 0 ≤ n by omega)] at hts
      simpa using hts.symm
    have hmx : mx n 0 = n := by unfold mx; split <;> omega
    rw [hmx, decide_eq_true (show 0 ≤ n by omega), if_pos rfl] at hts
    rw [if_pos (show 0 ≤ n by omega), if_pos hlt] at hts
    refine TotP.ite (fun h2 => ?_) (fun h2 => ?_)
    · rw [if_pos h2] at hts
      refine TotP.ite (fun _ => ?_) (fun h => absurd (by omega) h)
      refine TotP.ite (fun _ => ?_) (fun h => absurd hlt h)
      refine TotP.ite (fun he => ?_) (fun he => bad ?_)
      · refine TotP.ite (fun h4 => absurd h4 (by omega)) (fun _ => hk ?_)
        have hts := Option.some.inj hts
        rw [← hts]; simpa using he
      · have hts := Option.some.inj hts
        rw [← hts]; simpa using he
    · rw [if_neg h2] at hts
      refine TotP.ite (fun h4 => ?_) (fun h4 => hk ?_)
      · rw [if_pos h4] at hts
        try rw [if_pos (show 0 ≤ n by omega), if_pos hlt] at hts
        refine TotP.ite (fun _ => ?_) (fun h => absurd (by omega) h)
        refine TotP.ite (fun _ => ?_) (fun h => absurd hlt h)
        have hts := Option.some.inj hts
        refine TotP.ite (fun he => hk ?_) (fun he => bad ?_)
        · rw [← hts]; simpa using he
        · rw [← hts]; simpa using he
      · rw [if_neg h4] at hts
        exact (Option.some.inj hts).symm
end Go.Proofs.Ytdedmhmomoejkaa.X
namespace Go.Proofs.Ytdedmhmomoejkaa.X
open Go.RowKit Go.Proofs.YtdedmhmomoejkaaW.PrintWords Go.Proofs.YtdedmhmomoejkaaW.PrintLast Go.Proofs.YtdedmhmomoejkaaW.PrintMore
attribute [local go_sem] max2_int max_two
set_option linter.unusedVariables false
set_option linter.unusedSimpArgs false
def firkinref17_Fits.j0 : Nat → List (S64) → Bool → Int → ByteArray → Int → Bool → Int → ByteArray → Int → ByteArray → List (S27) → Option (Int)
 | 0, _, _, _, _, _, _, _, _, _, _, _ => none
 | k + 1, x0, x12, x295000, x295001, x295002, x295003, x295004, x295005, x295006, x295007, x295008 => if x12 = true then (some 1) else ((firkinref17_typed.f k x0 x295000 x295001 x295002 x295003 x295004 x295005 x295006 x295007 x295008).bind fun t297 => (if t297 = true then (some 0) else (some 10)))
def firkinref17_Fits.f (k : Nat) (l0 : List (S64)) (a1_0 : Int) (a1_1 : ByteArray) (a1_2 : Int) (a1_3 : Bool) (a1_4 : Int) (a1_5 : ByteArray) (a1_6 : Int) (a1_7 : ByteArray) (l1_8 : List (S27)) : Option (Int) := (firkinref17_May.f k a1_0 a1_1 a1_2 a1_3 a1_4 a1_5 a1_6 a1_7 l1_8).bind fun t295 => (if t295 = true then ((firkinref12_Check.f k l0).bind fun t296 => (firkinref17_Fits.j0 k l0 (t296 != 0) a1_0 a1_1 a1_2 a1_3 a1_4 a1_5 a1_6 a1_7 l1_8)) else (firkinref17_Fits.j0 k l0 true a1_0 a1_1 a1_2 a1_3 a1_4 a1_5 a1_6 a1_7 l1_8))
theorem firkinref17_Fits.mono_l : ∀ k, (∀ y0 y1 y2 y3 y4 y5 y6 y7 y8 y9 y10, LeO (firkinref17_Fits.j0 k y0 y1 y2 y3 y4 y5 y6 y7 y8 y9 y10) (firkinref17_Fits.j0 (k + 1) y0 y1 y2 y3 y4 y5 y6 y7 y8 y9 y10))
 | 0 => fun _ _ _ _ _ _ _ _ _ _ _ r h => by simp [firkinref17_Fits.j0] at h
 | k + 1 => by
  have ih0 := firkinref17_Fits.mono_l k
  ·intro y0 y1 y2 y3 y4 y5 y6 y7 y8 y9 y10
   unfold firkinref17_Fits.j0
   repeat' first
   | (with_reducible exact ih0 _ _ _ _ _ _ _ _ _ _ _)
   | (with_reducible exact firkinref12_Check.mono _ _)
   | (with_reducible exact firkinref17_May.mono _ _ _ _ _ _ _ _ _ _)
   | (with_reducible exact firkinref17_typed.mono _ _ _ _ _ _ _ _ _ _ _)
   | (with_reducible exact LeO.refl _)
   | (with_reducible exact LeO.none _)
   | (with_reducible refine LeO.ite ?_ ?_)
   | (with_reducible refine LeO.bind ?_ (fun _ => ?_))
   | exact ih0 _ _ _ _ _ _ _ _ _ _ _
   | exact firkinref12_Check.mono _ _
   | exact firkinref17_May.mono _ _ _ _ _ _ _ _ _ _
   | exact firkinref17_typed.mono _ _ _ _ _ _ _ _ _ _ _
   | exact LeO.none _
   | refine LeO.ite ?_ ?_
   | refine LeO.bind ?_ (fun _ => ?_)
theorem firkinref17_Fits.mono : ∀ a0 a1 a2 a3 a4 a5 a6 a7 a8 a9 k, LeO (firkinref17_Fits.f k a0 a1 a2 a3 a4 a5 a6 a7 a8 a9) (firkinref17_Fits.f (k + 1) a0 a1 a2 a3 a4 a5 a6 a7 a8 a9) := by
 intro a0 a1 a2 a3 a4 a5 a6 a7 a8 a9 k
 have ih0 := firkinref17_Fits.mono_l k
 unfold firkinref17_Fits.f
 repeat' first
   | (with_reducible exact ih0 _ _ _ _ _ _ _ _ _ _ _)
   | (with_reducible exact firkinref12_Check.mono _ _)
   | (with_reducible exact firkinref17_May.mono _ _ _ _ _ _ _ _ _ _)
   | (with_reducible exact firkinref17_typed.mono _ _ _ _ _ _ _ _ _ _ _)
   | (with_reducible exact LeO.refl _)
   | (with_reducible exact LeO.none _)
   | (with_reducible refine LeO.ite ?_ ?_)
   | (with_reducible refine LeO.bind ?_ (fun _ => ?_))
   | exact ih0 _ _ _ _ _ _ _ _ _ _ _
   | exact firkinref12_Check.mono _ _
   | exact firkinref17_May.mono _ _ _ _ _ _ _ _ _ _
   | exact firkinref17_typed.mono _ _ _ _ _ _ _ _ _ _ _
   | exact LeO.none _
   | refine LeO.ite ?_ ?_
   | refine LeO.bind ?_ (fun _ => ?_)
set_option maxHeartbeats 8000000 in
set_option maxRecDepth 100000 in
theorem firkinref17_Fits.calls (k : Nat) (A0 : Option Addr) (c0 : Nat) (l0 : List (S64)) (a1_0 : Int) (a1_1 : ByteArray) (a1_2 : Int) (a1_3 : Bool) (a1_4 : Int) (a1_5 : ByteArray) (a1_6 : Int) (a1_7 : ByteArray) (A1_8 : Option Addr) (c1_8 : Nat) (l1_8 : List (S27)) (r : Int) (w : World) (hr0 : Kd.C k64 w A0 l0.length l0) (hc0 : l0.length ≤ c0) (hr1_8 : Kd.C k27 w A1_8 l1_8.length l1_8) (hc1_8 : l1_8.length ≤ c1_8) (h : firkinref17_Fits.f k l0 a1_0 a1_1 a1_2 a1_3 a1_4 a1_5 a1_6 a1_7 l1_8 = some r) :
  Calls Try.prog 30 #[.slice A0 l0.length c0, .agg #[.int .i64 a1_0, .string a1_1, .int .i64 a1_2, .bool a1_3, .int .i64 a1_4, .string a1_5, .int .i64 a1_6, .string a1_7, .slice A1_8 l1_8.length c1_8]] w fun e w' => e = .returned (.int .i64 r) ∧ Below w.heap.size w w' := by
 have hu27 := Try.underlying27
 have HR0 := Aside0.mk hr0
 have HC0 := Aside0.mk hc0
 clear hr0 hc0
 have HR1_8 := Aside0.mk hr1_8
 have HC1_8 := Aside0.mk hc1_8
 clear hr1_8 hc1_8
 have HB := Aside0.mk (Below.refl w.heap.size w)
 have H : ((firkinref17_May.f k a1_0 a1_1 a1_2 a1_3 a1_4 a1_5 a1_6 a1_7 l1_8).bind fun t295 => (if t295 = true then ((firkinref12_Check.f k l0).bind fun t296 => (firkinref17_Fits.j0 k l0 (t296 != 0) a1_0 a1_1 a1_2 a1_3 a1_4 a1_5 a1_6 a1_7 l1_8)) else (firkinref17_Fits.j0 k l0 true a1_0 a1_1 a1_2 a1_3 a1_4 a1_5 a1_6 a1_7 l1_8))) = some r := h
 clear h
 have HC3 := Aside0.mk H
 clear H
 go_enter Try.func30, Try.ntmps30
 go_upto_region 1 with (first | (refine bx_ (N := 3) (cs := #[.int .i64 a1_0, .string a1_1, .int .i64 a1_2, .bool a1_3, .int .i64 a1_4, .string a1_5, .int .i64 a1_6, .string a1_7, .slice A1_8 l1_8.length c1_8]) (t := 27) ?_; intro gb294 hg w4 hbox hb; have BK294 := Aside0.mk (hbox); have GW294 := ge_ HB hg; have GE294 := ge_ HB hg; replace HB := bs_ HB hb; clear hb hbox hg))
 (try simp only [Act.put, List.setIfInBounds_toArray, List.set_cons_zero, List.set_cons_succ])
 go_cut [12] (fun v12 wc => ∃ (kq : Nat) (x12_2 : Bool), v12 = .bool x12_2 ∧ Aside0 (firkinref17_Fits.j0 kq l0 x12_2 a1_0 a1_1 a1_2 a1_3 a1_4 a1_5 a1_6 a1_7 l1_8 = some r) ∧ Aside0 (kq ≤ k) ∧ Aside0 (wc.heap[gb294]? = some (.cells #[.int .i64 a1_0, .string a1_1, .int .i64 a1_2, .bool a1_3, .int .i64 a1_4, .string a1_5, .int .i64 a1_6, .string a1_7, (.slice A1_8 l1_8.length c1_8)] 27 (0, 0))) ∧ Aside0 (Below w.heap.size w wc))
 case first =>
  have H := HC3.out
  clear HC3
  replace H := Option.bind_eq_some_iff.mp H
  obtain ⟨t295, A50, H⟩ := H
  replace H : (if t295 = true then ((firkinref12_Check.f k l0).bind fun t296 => (firkinref17_Fits.j0 k l0 (t296 != 0) a1_0 a1_1 a1_2 a1_3 a1_4 a1_5 a1_6 a1_7 l1_8)) else (firkinref17_Fits.j0 k l0 true a1_0 a1_1 a1_2 a1_3 a1_4 a1_5 a1_6 a1_7 l1_8)) = some r := H
  have A5 := Aside0.mk A50
  clear A50
  by_cases c6 : t295 = true
  rotate_left
  focus
   replace c6 := Bool.eq_false_iff.mpr c6
   subst c6
   have H1 : (firkinref17_Fits.j0 k l0 true a1_0 a1_1 a1_2 a1_3 a1_4 a1_5 a1_6 a1_7 l1_8) = some r := by rw [if_neg (show ¬ (false = true) by decide)] at H; exact H
   clear H
   have H := H1
   clear H1
   have H' := Aside0.mk H
   clear H
   obtain ⟨C11_0, C11_1, C11_2, C11_3, C11_4, C11_5, C11_6, C11_7, C11_8⟩ := cz9_ BK294.out
   obtain ⟨F11_0, F11_1, F11_2, F11_3, F11_4, F11_5, F11_6, F11_7, F11_8⟩ := fz9_ BK294.out
   go_wp2_with (first | ((with_reducible refine gate_callee (f := 54) rfl ?_); refine gl_ (some 6) rfl Try.func54 #[.agg #[.int .i64 a1_0, .string a1_1, .int .i64 a1_2, .bool a1_3, .int .i64 a1_4, .string a1_5, .int .i64 a1_6, .string a1_7, .slice A1_8 l1_8.length c1_8]] ?_; (with_reducible refine (firkinref17_May.calls k a1_0 a1_1 a1_2 a1_3 a1_4 a1_5 a1_6 a1_7 _ _ l1_8 false _ ?side1 ?side2 A5.out).mono ?_); (case side1 => repeat (first | exact (Kd.C_below HR1_8.out HB.out) | (with_reducible refine Kd.C_alloc ?_ _) | (with_reducible refine Kd.C_drewN ?_ _) | (with_reducible refine Kd.C_drew ?_))); (case side2 => exact HC1_8.out); rintro e w12 ⟨rfl, hb⟩; refine ⟨_, rfl, ?_⟩;  replace BK294 := bk_ BK294 hb; replace HB := bs_ HB hb; (try clear hb)))
  rotate_right
  focus
   subst c6
   have H1 : ((firkinref12_Check.f k l0).bind fun t296 => (firkinref17_Fits.j0 k l0 (t296 != 0) a1_0 a1_1 a1_2 a1_3 a1_4 a1_5 a1_6 a1_7 l1_8)) = some r := by rw [if_pos rfl] at H; exact H
   clear H
   have H := H1
   clear H1
   replace H := Option.bind_eq_some_iff.mp H
   obtain ⟨t296, A70, H⟩ := H
   replace H : (firkinref17_Fits.j0 k l0 (t296 != 0) a1_0 a1_1 a1_2 a1_3 a1_4 a1_5 a1_6 a1_7 l1_8) = some r := H
   have A7 := Aside0.mk A70
   clear A70
   have H' := Aside0.mk H
   clear H
   obtain ⟨C8_0, C8_1, C8_2, C8_3, C8_4, C8_5, C8_6, C8_7, C8_8⟩ := cz9_ BK294.out
   obtain ⟨F8_0, F8_1, F8_2, F8_3, F8_4, F8_5, F8_6, F8_7, F8_8⟩ := fz9_ BK294.out
   go_wp2_with (first | ((with_reducible refine gate_callee (f := 54) rfl ?_); refine gl_ (some 6) rfl Try.func54 #[.agg #[.int .i64 a1_0, .string a1_1, .int .i64 a1_2, .bool a1_3, .int .i64 a1_4, .string a1_5, .int .i64 a1_6, .string a1_7, .slice A1_8 l1_8.length c1_8]] ?_; (with_reducible refine (firkinref17_May.calls k a1_0 a1_1 a1_2 a1_3 a1_4 a1_5 a1_6 a1_7 _ _ l1_8 true _ ?side1 ?side2 A5.out).mono ?_); (case side1 => repeat (first | exact (Kd.C_below HR1_8.out HB.out) | (with_reducible refine Kd.C_alloc ?_ _) | (with_reducible refine Kd.C_drewN ?_ _) | (with_reducible refine Kd.C_drew ?_))); (case side2 => exact HC1_8.out); rintro e w9 ⟨rfl, hb⟩; refine ⟨_, rfl, ?_⟩;  replace BK294 := bk_ BK294 hb; replace HB := bs_ HB hb; (try clear hb)) | (go_at_call 55; (with_reducible refine (firkinref12_Check.calls k _ _ l0 t296 _ ?side1 ?side2 A7.out).mono ?_); (case side1 => repeat (first | exact (Kd.C_below HR0.out HB.out) | (with_reducible refine Kd.C_alloc ?_ _) | (with_reducible refine Kd.C_drewN ?_ _) | (with_reducible refine Kd.C_drew ?_))); (case side2 => exact HC0.out); rintro e w10 ⟨rfl, hb⟩;  replace BK294 := bk_ BK294 hb; replace HB := bs_ HB hb; (try clear hb)))
  all_goals
   go_meet
   case rel => exact ⟨_, _, (by first | rfl | (simp; done) | (simp [*]; done)), H', ⟨by first | omega | exact Nat.le_refl _⟩, ⟨by (with_reducible repeat (first | refine blk_drewN ?_ _ | refine blk_drew ?_ | refine blk_alloc ?_ _)); exact BK294.out⟩, ⟨by repeat (first | (with_reducible first | exact HB.out | apply below_alloc | apply pw_below_drewN | apply below_drew1 | refine below_set ?_ GE294.out) | exact HB.out)⟩⟩
 case rest =>
  clear HC3
  try clear c1
  try clear p2
  try clear c3
  try clear c5
  try clear c6
  try clear C11_0 C11_1 C11_2 C11_3 C11_4 C11_5 C11_6 C11_7 C11_8
  try clear C8_0 C8_1 C8_2 C8_3 C8_4 C8_5 C8_6 C8_7 C8_8
  try clear F11_0 F11_1 F11_2 F11_3 F11_4 F11_5 F11_6 F11_7 F11_8
  try clear F8_0 F8_1 F8_2 F8_3 F8_4 F8_5 F8_6 F8_7 F8_8
  obtain ⟨kq, x12_2, rfl, HA, HJ2, BK294, HB⟩ := hcut
  cases kq with
  | zero => exact absurd HA.out (by simp [firkinref17_Fits.j0])
  | succ kj2 =>
   have H := HA.out
   clear HA
   simp only [firkinref17_Fits.j0] at H
   by_cases c13 : x12_2 = true
   ·subst c13
    have H1 : (some 1) = some r := by rw [if_pos rfl] at H; exact H
    clear H
    have H := H1
    clear H1
    obtain rfl := Option.some.inj H
    go_wp2
    go_ret
    exact en_ HB
   ·replace c13 := Bool.eq_false_iff.mpr c13
    subst c13
    have H1 : ((firkinref17_typed.f kj2 l0 a1_0 a1_1 a1_2 a1_3 a1_4 a1_5 a1_6 a1_7 l1_8).bind fun t297 => (if t297 = true then (some 0) else (some 10))) = some r := by rw [if_neg (show ¬ (false = true) by decide)] at H; exact H
    clear H
    have H := H1
    clear H1
    replace H := Option.bind_eq_some_iff.mp H
    obtain ⟨t297, A140, H⟩ := H
    replace H : (if t297 = true then (some 0) else (some 10)) = some r := H
    have A14 := Aside0.mk A140
    clear A140
    by_cases c15 : t297 = true
    ·subst c15
     have H1 : (some 0) = some r := by rw [if_pos rfl] at H; exact H
     clear H
     have H := H1
     clear H1
     obtain rfl := Option.some.inj H
     obtain ⟨C16_0, C16_1, C16_2, C16_3, C16_4, C16_5, C16_6, C16_7, C16_8⟩ := cz9_ BK294.out
     obtain ⟨F16_0, F16_1, F16_2, F16_3, F16_4, F16_5, F16_6, F16_7, F16_8⟩ := fz9_ BK294.out
     go_wp2_with (first | ((with_reducible refine gate_callee (f := 56) rfl ?_); refine gl_ (some 15) rfl Try.func56 #[.slice A0 l0.length c0, .agg #[.int .i64 a1_0, .string a1_1, .int .i64 a1_2, .bool a1_3, .int .i64 a1_4, .string a1_5, .int .i64 a1_6, .string a1_7, .slice A1_8 l1_8.length c1_8]] ?_; (with_reducible refine (firkinref17_typed.calls kj2 _ _ l0 a1_0 a1_1 a1_2 a1_3 a1_4 a1_5 a1_6 a1_7 _ _ l1_8 true _ ?side1 ?side2 ?side3 ?side4 A14.out).mono ?_); (case side1 => repeat (first | exact (Kd.C_below HR0.out HB.out) | (with_reducible refine Kd.C_alloc ?_ _) | (with_reducible refine Kd.C_drewN ?_ _) | (with_reducible refine Kd.C_drew ?_))); (case side2 => exact HC0.out); (case side3 => repeat (first | exact (Kd.C_below HR1_8.out HB.out) | (with_reducible refine Kd.C_alloc ?_ _) | (with_reducible refine Kd.C_drewN ?_ _) | (with_reducible refine Kd.C_drew ?_))); (case side4 => exact HC1_8.out); rintro e w17 ⟨rfl, hb⟩; refine ⟨_, rfl, ?_⟩;  replace BK294 := bk_ BK294 hb; replace HB := bs_ HB hb; (try clear hb)))
     go_ret
     exact en_ HB
    ·replace c15 := Bool.eq_false_iff.mpr c15
     subst c15
     have H1 : (some 10) = some r := by rw [if_neg (show ¬ (false = true) by decide)] at H; exact H
     clear H
     have H := H1
     clear H1
     obtain rfl := Option.some.inj H
     obtain ⟨C18_0, C18_1, C18_2, C18_3, C18_4, C18_5, C18_6, C18_7, C18_8⟩ := cz9_ BK294.out
     obtain ⟨F18_0, F18_1, F18_2, F18_3, F18_4, F18_5, F18_6, F18_7, F18_8⟩ := fz9_ BK294.out
     go_wp2_with (first | ((with_reducible refine gate_callee (f := 56) rfl ?_); refine gl_ (some 15) rfl Try.func56 #[.slice A0 l0.length c0, .agg #[.int .i64 a1_0, .string a1_1, .int .i64 a1_2, .bool a1_3, .int .i64 a1_4, .string a1_5, .int .i64 a1_6, .string a1_7, .slice A1_8 l1_8.length c1_8]] ?_; (with_reducible refine (firkinref17_typed.calls kj2 _ _ l0 a1_0 a1_1 a1_2 a1_3 a1_4 a1_5 a1_6 a1_7 _ _ l1_8 false _ ?side1 ?side2 ?side3 ?side4 A14.out).mono ?_); (case side1 => repeat (first | exact (Kd.C_below HR0.out HB.out) | (with_reducible refine Kd.C_alloc ?_ _) | (with_reducible refine Kd.C_drewN ?_ _) | (with_reducible refine Kd.C_drew ?_))); (case side2 => exact HC0.out); (case side3 => repeat (first | exact (Kd.C_below HR1_8.out HB.out) | (with_reducible refine Kd.C_alloc ?_ _) | (with_reducible refine Kd.C_drewN ?_ _) | (with_reducible refine Kd.C_drew ?_))); (case side4 => exact HC1_8.out); rintro e w19 ⟨rfl, hb⟩; refine ⟨_, rfl, ?_⟩;  replace BK294 := bk_ BK294 hb; replace HB := bs_ HB hb; (try clear hb)))
     go_ret
     exact en_ HB
end Go.Proofs.Ytdedmhmomoejkaa.X
namespace Go.Proofs.Ytdedmhmomoejkaa.X
open Go.RowKit Go.Proofs.YtdedmhmomoejkaaW.PrintWords Go.Proofs.YtdedmhmomoejkaaW.PrintLast
set_option linter.unusedVariables false
set_option linter.unusedSimpArgs false
theorem fits17 (l : List S64) (x : S27) (hl : l.length ≤ 9223372036854775806) (hs : ∀ y, y ∈ l → y.f0.size ≤ 9223372036854775806) (h : Fine 6 x) :
    TotP (fun r => r = fitsE l x) (fun k => firkinref17_Fits.f k l x.f0 x.f1 x.f2 x.f3.f0 x.f3.f1 x.f3.f2 x.f4 x.f5 x.f6) := by
  have j1 : ∀ b : Bool, b = true → ¬ (mayB x = true ∧ checkE l = 0) → TotP (fun r => r = fitsE l x) (fun k => firkinref17_Fits.j0 k l b x.f0 x.f1 x.f2 x.f3.f0 x.f3.f1 x.f3.f2 x.f4 x.f5 x.f6) := by
    intro b hb hn
    refine TotP.succ (fun k => by simp only [firkinref17_Fits.j0]; rfl) ?_
    exact TotP.ite (fun _ => TotP.some_ (by unfold fitsE; rw [if_neg hn])) (fun h => absurd hb h)
  unfold firkinref17_Fits.f
  refine TotP.bind (may17 x h) (fun m hm => ?_)
  subst hm
  refine TotP.ite (fun hm => ?_) (fun hm => j1 true rfl (fun h' => hm h'.1))
  refine TotP.bind (check12 l hl hs) (fun e he => ?_)
  subst he
  by_cases hz : checkE l = 0
  · have hc : ∃ c, cnt 6 x = some c := by
      have := (ev_may 6 x 0 (by omega)).1
      have hev : (ev mayStep 6 x 0).1 = true ↔ ∃ c, cnt 6 x = some c ∧ 0 + c ≤ 16 ∧ AllL locB 6 x := by simpa using this
      obtain ⟨c, hc, _⟩ := hev.1 hm
      exact ⟨c, hc⟩
    refine TotP.succ (fun k => by simp only [firkinref17_Fits.j0]; rfl) ?_
    refine TotP.ite (fun g => absurd g (by simp [hz])) (fun _ => ?_)
    refine TotP.bind (typed17 l hl 6 x h hc) (fun t ht => ?_)
    have hev := ev_typed l 6 x hc
    unfold fitsE
    rw [if_pos ⟨hm, hz⟩]
    refine TotP.ite (fun g => TotP.some_ (by rw [if_pos (hev.2 (ht.1 g))])) (fun g => TotP.some_ (by rw [if_neg (fun h' => g (ht.2 (hev.1 h')))]))
  · exact j1 _ (by simpa using hz) (fun h' => hz h'.2)
end Go.Proofs.Ytdedmhmomoejkaa.X
