/- Words and walks for X.pruneSafe_holds, part 7 of the texts that a program of this session laid together. -/
import Derived.Test.YtdedmhmomoejkaaS1
import Derived.Test.YtdedmhmomoejkaaS6
namespace Go.Proofs.Ytdedmhmomoejkaa.X
set_option maxHeartbeats 8000000
set_option maxRecDepth 100000
open Go.RowKit Go.Proofs.YtdedmhmomoejkaaW.PrintWords Go.Proofs.YtdedmhmomoejkaaW.PrintLast Go.Proofs.YtdedmhmomoejkaaW.PrintMore
attribute [local go_sem] max2_int max_two
set_option linter.unusedVariables false
set_option linter.unusedSimpArgs false
mutual
def Bd.l0 : Nat → List (S64) → Int → Option (Bool)
 | 0, _, _ => none
 | k + 1, x0, x3 => if x3 < (x0.length : Int) then (Bd.j1 k x0 x3 (decide (x3 < 30))) else (Bd.j1 k x0 x3 false)
def Bd.j1 : Nat → List (S64) → Int → Bool → Option (Bool)
 | 0, _, _, _ => none
 | k + 1, x0, x3, x11 => if x11 = true then (if 0 ≤ x3 then (if x3 < (x0.length : Int) then (if (((Bj x0 x3).f0).size : Int) > 100 then (some false) else (Bd.l0 k x0 (wrap64 (x3 + 1)))) else (none)) else (none)) else (some (decide ((x0.length : Int) ≤ 20)))
end
def Bd.f (k : Nat) (l0 : List (S64)) : Option (Bool) := Bd.l0 k l0 0
theorem Bd.mono_l : ∀ k, (∀ y0 y1, LeO (Bd.l0 k y0 y1) (Bd.l0 (k + 1) y0 y1)) ∧ (∀ y0 y1 y2, LeO (Bd.j1 k y0 y1 y2) (Bd.j1 (k + 1) y0 y1 y2))
 | 0 => ⟨fun _ _ r h => by simp [Bd.l0] at h, fun _ _ _ r h => by simp [Bd.j1] at h⟩
 | k + 1 => by
  obtain ⟨ih0, ih1⟩ := Bd.mono_l k
  refine ⟨?_, ?_⟩
  focus intro y0 y1;unfold Bd.l0
  rotate_left
  focus intro y0 y1 y2;unfold Bd.j1
  rotate_left
  all_goals repeat' first|(with_reducible first|exact ih0 _ _|exact ih1 _ _ _|exact LeO.refl _|exact LeO.none _|refine LeO.ite ?_ ?_|refine LeO.bind ?_ fun _=>?_)|exact ih0 _ _|exact ih1 _ _ _|exact LeO.none _|refine LeO.ite ?_ ?_|refine LeO.bind ?_ fun _=>?_
theorem Bd.mono : ∀ a0 k, LeO (Bd.f k a0) (Bd.f (k + 1) a0) := by
 intro a0 k
 obtain ⟨ih0, ih1⟩ := Bd.mono_l k
 unfold Bd.f
 repeat' first|(with_reducible first|exact ih0 _ _|exact ih1 _ _ _|exact LeO.refl _|exact LeO.none _|refine LeO.ite ?_ ?_|refine LeO.bind ?_ fun _=>?_)|exact ih0 _ _|exact ih1 _ _ _|exact LeO.none _|refine LeO.ite ?_ ?_|refine LeO.bind ?_ fun _=>?_
theorem Bd.calls (k : Nat) (A0 : Option Addr) (c0 : Nat) (l0 : List (S64)) (r : Bool) (w : World) (hr0 : Kd.C k64 w A0 l0.length l0) (hc0 : l0.length ≤ c0) (h : Bd.f k l0 = some r) :
  Calls Try.prog 9 #[.slice A0 l0.length c0] w fun e w' => e = .returned (.bool r) ∧ Bp w w' := by
 have HR0 := Aa.mk hr0
 have HC0 := Aa.mk hc0
 clear hr0 hc0
 have H : (Bd.l0 k l0 0) = some r := h
 clear h
 have H' := Aa.mk H
 clear H
 go_enter Try.func9, Try.ntmps9
 go_wp2
 go_loopg [3] k (fun kq v3 w' => ∃ (x3_1 : Int), v3 = .int .i64 x3_1 ∧ Aa (Bd.l0 kq l0 x3_1 = some r) ∧ Aa (kq ≤ k) ∧ Bp w w')
 case atStart => exact ⟨_, (by first | rfl | (simp; done) | (simp [*]; done)), H', ⟨Nat.le_refl _⟩, by repeat (first | exact Bp.refl _ | apply Bp.step)⟩
 case round =>(
 clear H'
 obtain ⟨x3_1, rfl, HA, HK1, ⟨m1, rfl⟩⟩ := hrel
 cases gk with
 | zero => exact absurd HA.out (by simp [Bd.l0])
 | succ k1 =>(
 have H := HA.out
 clear HA
 simp only [Bd.l0] at H
 have HC2 := Aa.mk H
 clear H
 go_upto_region 2 with (fail)
 go_cut [11] (fun v11 wc => ∃ (kq : Nat) (x11_1 : Bool), v11 = .bool x11_1 ∧ Aa (Bd.j1 kq l0 x3_1 x11_1 = some r) ∧ Aa (kq ≤ k1) ∧ Bp w wc)
 case first =>(
 have H := HC2.out
 clear HC2
 by_cases c3 : x3_1 < (l0.length : Int)
 rotate_left
 focus(
 rw [if_neg c3] at H
 have c3b0 : decide (x3_1 < (l0.length : Int)) = false := decide_eq_false c3)
 rotate_right
 focus(
 rw [if_pos c3] at H
 have c3b0 : decide (x3_1 < (l0.length : Int)) = true := decide_eq_true c3)
 all_goals(
 clear c3
 (first | rw [c3b0] | (simp only [i64_w, i32_w]; rw [c3b0]) | skip)
 have H' := Aa.mk H
 clear H
 go_wp2
 go_meet
 case rel => exact ⟨_, _, (by first | rfl | (simp; done) | (simp [*]; done)), H', ⟨by have := HK1.out; first | omega | exact Nat.le_refl _⟩, by repeat (first | exact Bp.refl _ | apply Bp.step)⟩))
 case rest =>(
 clear HC2
 try clear c3
 try clear c3b0
 obtain ⟨kq, x11_1, rfl, HA, HJ1, ⟨mc1, rfl⟩⟩ := hcut
 cases kq with
 | zero => exact absurd HA.out (by simp [Bd.j1])
 | succ kj1 =>(
 have H := HA.out
 clear HA
 simp only [Bd.j1] at H
 by_cases c4 : x11_1 = true
 ·(
 subst c4
 have H1 : (if 0 ≤ x3_1 then (if x3_1 < (l0.length : Int) then (if (((Bj l0 x3_1).f0).size : Int) > 100 then (some false) else (Bd.l0 kj1 l0 (wrap64 (x3_1 + 1)))) else (none)) else (none)) = some r := by rw [if_pos rfl] at H; exact H
 clear H
 have H := H1
 clear H1
 by_cases c5 : 0 ≤ x3_1
 ·(
 rw [if_pos c5] at H
 have c5b0 : decide (0 ≤ x3_1) = true := decide_eq_true c5
 clear c5
 by_cases c6 : x3_1 < (l0.length : Int)
 ·(
 rw [if_pos c6] at H
 have c6b0 : decide (x3_1 < (l0.length : Int)) = true := decide_eq_true c6
 clear c6
 by_cases c7 : (((Bj l0 x3_1).f0).size : Int) > 100
 ·(
 rw [if_pos c7] at H
 have c7b0 : decide (100 < (((Bj l0 x3_1).f0).size : Int)) = true := decide_eq_true c7
 have c7b1 : decide (100 < ((Bj l0 x3_1).f0).size) = true := decide_eq_true (by omega)
 clear c7
 obtain rfl := Dp H
 have p101 : 0 ≤ (x3_1 : Int) := dt_
 have q101 : x3_1 < (l0.length : Int) := dt_
 obtain ⟨ad101, e101, hx101_0, hx101_1, hx101_2⟩ := at_T64 HR0.out x3_1 p101 q101
 cases e101
 replace p101 := eq_true p101
 replace q101 := eq_true q101
 go_wp2
 go_ret
 exact ⟨by first | rfl | (simp; done) | (simp [*]; done), by repeat (first | exact Bp.refl _ | apply Bp.step)⟩)
 ·(
 rw [if_neg c7] at H
 have c7b0 : decide (100 < (((Bj l0 x3_1).f0).size : Int)) = false := decide_eq_false c7
 have c7b1 : decide (100 < ((Bj l0 x3_1).f0).size) = false := decide_eq_false (by omega)
 clear c7
 have H' := Aa.mk H
 clear H
 have p101 : 0 ≤ (x3_1 : Int) := dt_
 have q101 : x3_1 < (l0.length : Int) := dt_
 obtain ⟨ad101, e101, hx101_0, hx101_1, hx101_2⟩ := at_T64 HR0.out x3_1 p101 q101
 cases e101
 replace p101 := eq_true p101
 replace q101 := eq_true q101
 go_wp2
 go_roundg kj1
 case measure => have := HK1.out; have := HJ1.out; omega
 case rel => exact ⟨_, (by first | rfl | (simp; done) | (simp [*]; done)), H', ⟨by have := HK1.out; have := HJ1.out; omega⟩, by repeat (first | exact Bp.refl _ | apply Bp.step)⟩))
 ·(
 rw [if_neg c6] at H
 exact absurd H (by simp)))
 ·(
 rw [if_neg c5] at H
 exact absurd H (by simp)))
 ·(
 replace c4 := Dq c4
 subst c4
 have H1 : (some (decide ((l0.length : Int) ≤ 20))) = some r := by rw [if_neg (show ¬ (false = true) by decide)] at H; exact H
 clear H
 have H := H1
 clear H1
 obtain rfl := Dp H
 go_wp2
 go_ret
 exact ⟨by first | rfl | (simp; done) | (simp [*]; done), by repeat (first | exact Bp.refl _ | apply Bp.step)⟩)))))
mutual
def At.j0 : Nat → Int → Bool → Int → ByteArray → Int → Bool → Int → ByteArray → Int → ByteArray → List (S27) → Option (Bool)
 | 0, _, _, _, _, _, _, _, _, _, _, _ => none
 | k + 1, x1, x32, x103000, x103001, x103002, x103003, x103004, x103005, x103006, x103007, x103008 => if x32 = true then (some false) else (At.l0 k x1 0 x103000 x103001 x103002 x103003 x103004 x103005 x103006 x103007 x103008)
def At.l0 : Nat → Int → Int → Int → ByteArray → Int → Bool → Int → ByteArray → Int → ByteArray → List (S27) → Option (Bool)
 | 0, _, _, _, _, _, _, _, _, _, _, _ => none
 | k + 1, x1, x5, x103000, x103001, x103002, x103003, x103004, x103005, x103006, x103007, x103008 => if x5 < (x103008.length : Int) then (if 0 ≤ x5 then ((At.f k ((Al x103008 x5).f0) ((Al x103008 x5).f1) ((Al x103008 x5).f2) ((Al x103008 x5).f3.f0) ((Al x103008 x5).f3.f1) ((Al x103008 x5).f3.f2) ((Al x103008 x5).f4) ((Al x103008 x5).f5) ((Al x103008 x5).f6) (wrap64 (x1 - 1))).bind fun t104 => (if t104 = true then (At.l0 k x1 (wrap64 (x5 + 1)) x103000 x103001 x103002 x103003 x103004 x103005 x103006 x103007 x103008) else (some false))) else (none)) else (some true)
def At.f : Nat → Int → ByteArray → Int → Bool → Int → ByteArray → Int → ByteArray → List (S27) → Int → Option (Bool)
 | 0, _, _, _, _, _, _, _, _, _, _ => none
 | k + 1, a0_0, a0_1, a0_2, a0_3, a0_4, a0_5, a0_6, a0_7, l0_8, a1 => if a1 < 1 then (At.j0 k a1 true a0_0 a0_1 a0_2 a0_3 a0_4 a0_5 a0_6 a0_7 l0_8) else (if (l0_8.length : Int) > 20 then (At.j0 k a1 true a0_0 a0_1 a0_2 a0_3 a0_4 a0_5 a0_6 a0_7 l0_8) else (if (a0_1.size : Int) > 100 then (At.j0 k a1 true a0_0 a0_1 a0_2 a0_3 a0_4 a0_5 a0_6 a0_7 l0_8) else (if (a0_7.size : Int) > 100 then (At.j0 k a1 true a0_0 a0_1 a0_2 a0_3 a0_4 a0_5 a0_6 a0_7 l0_8) else (At.j0 k a1 (decide ((a0_5.size : Int) > 100)) a0_0 a0_1 a0_2 a0_3 a0_4 a0_5 a0_6 a0_7 l0_8))))
end
theorem At.mono_l : ∀ k, (∀ y0 y1 y2 y3 y4 y5 y6 y7 y8 y9, LeO (At.f k y0 y1 y2 y3 y4 y5 y6 y7 y8 y9) (At.f (k + 1) y0 y1 y2 y3 y4 y5 y6 y7 y8 y9)) ∧ (∀ y0 y1 y2 y3 y4 y5 y6 y7 y8 y9 y10, LeO (At.j0 k y0 y1 y2 y3 y4 y5 y6 y7 y8 y9 y10) (At.j0 (k + 1) y0 y1 y2 y3 y4 y5 y6 y7 y8 y9 y10)) ∧ (∀ y0 y1 y2 y3 y4 y5 y6 y7 y8 y9 y10, LeO (At.l0 k y0 y1 y2 y3 y4 y5 y6 y7 y8 y9 y10) (At.l0 (k + 1) y0 y1 y2 y3 y4 y5 y6 y7 y8 y9 y10))
 | 0 => ⟨fun _ _ _ _ _ _ _ _ _ _ r h => by simp [At.f] at h, fun _ _ _ _ _ _ _ _ _ _ _ r h => by simp [At.j0] at h, fun _ _ _ _ _ _ _ _ _ _ _ r h => by simp [At.l0] at h⟩
 | k + 1 => by
  obtain ⟨ih0, ih1, ih2⟩ := At.mono_l k
  refine ⟨?_, ?_, ?_⟩
  focus intro y0 y1 y2 y3 y4 y5 y6 y7 y8 y9;unfold At.f
  rotate_left
  focus intro y0 y1 y2 y3 y4 y5 y6 y7 y8 y9 y10;unfold At.j0
  rotate_left
  focus intro y0 y1 y2 y3 y4 y5 y6 y7 y8 y9 y10;unfold At.l0
  rotate_left
  all_goals repeat' first|(with_reducible first|exact ih0 _ _ _ _ _ _ _ _ _ _|exact ih1 _ _ _ _ _ _ _ _ _ _ _|exact ih2 _ _ _ _ _ _ _ _ _ _ _|exact LeO.refl _|exact LeO.none _|refine LeO.ite ?_ ?_|refine LeO.bind ?_ fun _=>?_)|exact ih0 _ _ _ _ _ _ _ _ _ _|exact ih1 _ _ _ _ _ _ _ _ _ _ _|exact ih2 _ _ _ _ _ _ _ _ _ _ _|exact LeO.none _|refine LeO.ite ?_ ?_|refine LeO.bind ?_ fun _=>?_
theorem At.mono : ∀ a0 a1 a2 a3 a4 a5 a6 a7 a8 a9 k, LeO (At.f k a0 a1 a2 a3 a4 a5 a6 a7 a8 a9) (At.f (k + 1) a0 a1 a2 a3 a4 a5 a6 a7 a8 a9) := by
 intro a0 a1 a2 a3 a4 a5 a6 a7 a8 a9 k
 obtain ⟨ih0, ih1, ih2⟩ := At.mono_l k
 exact ih0 a0 a1 a2 a3 a4 a5 a6 a7 a8 a9
theorem At.calls (k : Nat) : ∀ (a0_0 : Int) (a0_1 : ByteArray) (a0_2 : Int) (a0_3 : Bool) (a0_4 : Int) (a0_5 : ByteArray) (a0_6 : Int) (a0_7 : ByteArray) (A0_8 : Option Addr) (c0_8 : Nat) (l0_8 : List (S27)) (a1 : Int) (r : Bool) (w : World) (hr0_8 : Kd.C k27 w A0_8 l0_8.length l0_8) (hc0_8 : l0_8.length ≤ c0_8) (h : At.f k a0_0 a0_1 a0_2 a0_3 a0_4 a0_5 a0_6 a0_7 l0_8 a1 = some r),
  Calls Try.prog 10 #[.agg #[.int .i64 a0_0, .string a0_1, .int .i64 a0_2, .bool a0_3, .int .i64 a0_4, .string a0_5, .int .i64 a0_6, .string a0_7, .slice A0_8 l0_8.length c0_8], .int .i64 a1] w fun e w' => e = .returned (.bool r) ∧ Below w.heap.size w w' := by
 induction k using Nat.strongRecOn with
 | _ k ih =>
 intro a0_0 a0_1 a0_2 a0_3 a0_4 a0_5 a0_6 a0_7 A0_8 c0_8 l0_8 a1 r w hr0_8 hc0_8 h
 cases k with
 | zero => exact absurd h (by simp [At.f])
 | succ k =>
 simp only [At.f] at h
 have hu27 := Try.underlying27
 have HR0_8 := Aa.mk hr0_8
 have HC0_8 := Aa.mk hc0_8
 clear hr0_8 hc0_8
 have HB := Aa.mk (Below.refl w.heap.size w)
 have H : (if a1 < 1 then (At.j0 k a1 true a0_0 a0_1 a0_2 a0_3 a0_4 a0_5 a0_6 a0_7 l0_8) else (if (l0_8.length : Int) > 20 then (At.j0 k a1 true a0_0 a0_1 a0_2 a0_3 a0_4 a0_5 a0_6 a0_7 l0_8) else (if (a0_1.size : Int) > 100 then (At.j0 k a1 true a0_0 a0_1 a0_2 a0_3 a0_4 a0_5 a0_6 a0_7 l0_8) else (if (a0_7.size : Int) > 100 then (At.j0 k a1 true a0_0 a0_1 a0_2 a0_3 a0_4 a0_5 a0_6 a0_7 l0_8) else (At.j0 k a1 (decide ((a0_5.size : Int) > 100)) a0_0 a0_1 a0_2 a0_3 a0_4 a0_5 a0_6 a0_7 l0_8))))) = some r := h
 clear h
 have HC3 := Aa.mk H
 clear H
 go_enter Try.func10, Try.ntmps10
 go_upto_region 1 with (first | ((with_reducible refine Cv (N := 2) rfl ?_); (try (refine Cy (by rfl) ?_; dsimp only)); refine bx_ (N := 2) (cs := #[.int .i64 a0_0, .string a0_1, .int .i64 a0_2, .bool a0_3, .int .i64 a0_4, .string a0_5, .int .i64 a0_6, .string a0_7, .slice A0_8 l0_8.length c0_8]) (t := 27) ?_; intro gb102 hg w4 hbox hb; have BK102 := Aa.mk (hbox); have GW102 := ge_ HB hg; have GE102 := ge_ HB hg; replace HB := bs_ HB hb; clear hb hbox hg))
 (try simp only [Act.put, List.setIfInBounds_toArray, List.set_cons_zero, List.set_cons_succ])
 go_cut [32] (fun v32 wc => ∃ (kq : Nat) (x32_2 : Bool), v32 = .bool x32_2 ∧ Aa (At.j0 kq a1 x32_2 a0_0 a0_1 a0_2 a0_3 a0_4 a0_5 a0_6 a0_7 l0_8 = some r) ∧ Aa (kq ≤ k) ∧ Aa (wc.heap[gb102]? = some (.cells #[.int .i64 a0_0, .string a0_1, .int .i64 a0_2, .bool a0_3, .int .i64 a0_4, .string a0_5, .int .i64 a0_6, .string a0_7, (.slice A0_8 l0_8.length c0_8)] 27 (0, 0))) ∧ Aa (Below w.heap.size w wc))
 case first =>(
 have H := HC3.out
 clear HC3
 by_cases c5 : a1 < 1
 rotate_left
 focus(
 rw [if_neg c5] at H
 have c5b0 : decide (a1 < 1) = false := decide_eq_false c5
 clear c5
 (first | rw [c5b0] | (simp only [i64_w, i32_w]; rw [c5b0]) | skip)
 by_cases c6 : (l0_8.length : Int) > 20
 rotate_left
 focus(
 rw [if_neg c6] at H
 have c6b0 : decide (20 < (l0_8.length : Int)) = false := decide_eq_false c6
 have c6b1 : decide (20 < l0_8.length) = false := decide_eq_false (by omega)
 clear c6
 by_cases c8 : (a0_1.size : Int) > 100
 rotate_left
 focus(
 rw [if_neg c8] at H
 have c8b0 : decide (100 < (a0_1.size : Int)) = false := decide_eq_false c8
 have c8b1 : decide (100 < a0_1.size) = false := decide_eq_false (by omega)
 clear c8
 by_cases c10 : (a0_7.size : Int) > 100
 rotate_left
 focus(
 rw [if_neg c10] at H
 have c10b0 : decide (100 < (a0_7.size : Int)) = false := decide_eq_false c10
 have c10b1 : decide (100 < a0_7.size) = false := decide_eq_false (by omega))
 rotate_right
 focus(
 rw [if_pos c10] at H
 have c10b0 : decide (100 < (a0_7.size : Int)) = true := decide_eq_true c10
 have c10b1 : decide (100 < a0_7.size) = true := decide_eq_true (by omega))
 all_goals clear c10)
 rotate_right
 focus(
 rw [if_pos c8] at H
 have c8b0 : decide (100 < (a0_1.size : Int)) = true := decide_eq_true c8
 have c8b1 : decide (100 < a0_1.size) = true := decide_eq_true (by omega)
 clear c8))
 rotate_right
 focus(
 rw [if_pos c6] at H
 have c6b0 : decide (20 < (l0_8.length : Int)) = true := decide_eq_true c6
 have c6b1 : decide (20 < l0_8.length) = true := decide_eq_true (by omega)
 clear c6)
 all_goals(
 have H' := Aa.mk H
 clear H
 obtain ⟨C7_0, C7_1, C7_2, C7_3, C7_4, C7_5, C7_6, C7_7, C7_8⟩ := cz9_ BK102.out
 obtain ⟨F7_0, F7_1, F7_2, F7_3, F7_4, F7_5, F7_6, F7_7, F7_8⟩ := fz9_ BK102.out))
 rotate_right
 focus(
 rw [if_pos c5] at H
 have c5b0 : decide (a1 < 1) = true := decide_eq_true c5
 clear c5
 (first | rw [c5b0] | (simp only [i64_w, i32_w]; rw [c5b0]) | skip)
 have H' := Aa.mk H
 clear H)
 all_goals(
 go_wp2
 go_meet
 case rel => exact ⟨_, _, (by first | rfl | (simp; done) | (simp [*]; done)), H', ⟨by first | omega | exact Nat.le_refl _⟩, ⟨by (with_reducible repeat (first | refine Ag ?_ _ | refine Af ?_ | refine Ae ?_ _)); exact BK102.out⟩, ⟨by repeat (first | (with_reducible first | exact HB.out | apply Ak | apply Ah | apply Aj | refine Ao ?_ GE102.out) | exact HB.out)⟩⟩))
 case rest =>(
 clear HC3
 try clear c5
 try clear c5b0
 try clear c6
 try clear c6b0
 try clear c6b1
 try clear c8
 try clear c8b0
 try clear c8b1
 try clear c10
 try clear c10b0
 try clear c10b1
 try clear C11_0 C11_1 C11_2 C11_3 C11_4 C11_5 C11_6 C11_7 C11_8
 try clear C12_0 C12_1 C12_2 C12_3 C12_4 C12_5 C12_6 C12_7 C12_8
 try clear C7_0 C7_1 C7_2 C7_3 C7_4 C7_5 C7_6 C7_7 C7_8
 try clear C9_0 C9_1 C9_2 C9_3 C9_4 C9_5 C9_6 C9_7 C9_8
 try clear F11_0 F11_1 F11_2 F11_3 F11_4 F11_5 F11_6 F11_7 F11_8
 try clear F12_0 F12_1 F12_2 F12_3 F12_4 F12_5 F12_6 F12_7 F12_8
 try clear F7_0 F7_1 F7_2 F7_3 F7_4 F7_5 F7_6 F7_7 F7_8
 try clear F9_0 F9_1 F9_2 F9_3 F9_4 F9_5 F9_6 F9_7 F9_8
 obtain ⟨kq, x32_2, rfl, HA, HJ2, BK102, HB⟩ := hcut
 cases kq with
 | zero => exact absurd HA.out (by simp [At.j0])
 | succ kj2 =>(
 have H := HA.out
 clear HA
 simp only [At.j0] at H
 by_cases c13 : x32_2 = true
 ·(
 subst c13
 have H1 : (some false) = some r := by rw [if_pos rfl] at H; exact H
 clear H
 have H := H1
 clear H1
 obtain rfl := Dp H
 go_wp2
 go_ret
 exact en_ HB)
 ·(
 replace c13 := Dq c13
 subst c13
 have H1 : (At.l0 kj2 a1 0 a0_0 a0_1 a0_2 a0_3 a0_4 a0_5 a0_6 a0_7 l0_8) = some r := by rw [if_neg (show ¬ (false = true) by decide)] at H; exact H
 clear H
 have H := H1
 clear H1
 have H' := Aa.mk H
 clear H
 go_wp2
 go_loopg [5] kj2 (fun kq v5 w' => ∃ (x5_2 : Int), v5 = .int .i64 x5_2 ∧ Aa (At.l0 kq a1 x5_2 a0_0 a0_1 a0_2 a0_3 a0_4 a0_5 a0_6 a0_7 l0_8 = some r) ∧ Aa (kq ≤ kj2) ∧ Aa (w'.heap[gb102]? = some (.cells #[.int .i64 a0_0, .string a0_1, .int .i64 a0_2, .bool a0_3, .int .i64 a0_4, .string a0_5, .int .i64 a0_6, .string a0_7, (.slice A0_8 l0_8.length c0_8)] 27 (0, 0))) ∧ Aa (Below w.heap.size w w'))
 case atStart => exact ⟨_, (by first | rfl | (simp; done) | (simp [*]; done)), H', ⟨Nat.le_refl _⟩, ⟨by (with_reducible repeat (first | refine Ag ?_ _ | refine Af ?_ | refine Ae ?_ _)); exact BK102.out⟩, ⟨by repeat (first | (with_reducible first | exact HB.out | apply Ak | apply Ah | apply Aj | refine Ao ?_ GE102.out) | exact HB.out)⟩⟩
 case round =>(
 clear H'
 try clear c13
 try clear C11_0 C11_1 C11_2 C11_3 C11_4 C11_5 C11_6 C11_7 C11_8
 try clear C12_0 C12_1 C12_2 C12_3 C12_4 C12_5 C12_6 C12_7 C12_8
 try clear C7_0 C7_1 C7_2 C7_3 C7_4 C7_5 C7_6 C7_7 C7_8
 try clear C9_0 C9_1 C9_2 C9_3 C9_4 C9_5 C9_6 C9_7 C9_8
 try clear F11_0 F11_1 F11_2 F11_3 F11_4 F11_5 F11_6 F11_7 F11_8
 try clear F12_0 F12_1 F12_2 F12_3 F12_4 F12_5 F12_6 F12_7 F12_8
 try clear F7_0 F7_1 F7_2 F7_3 F7_4 F7_5 F7_6 F7_7 F7_8
 try clear F9_0 F9_1 F9_2 F9_3 F9_4 F9_5 F9_6 F9_7 F9_8
 obtain ⟨x5_2, rfl, HA, HK2, BK102, HB⟩ := hrel
 cases gk with
 | zero => exact absurd HA.out (by simp [At.l0])
 | succ k2 =>(
 have H := HA.out
 clear HA
 simp only [At.l0] at H
 by_cases c14 : x5_2 < (l0_8.length : Int)
 ·(
 rw [if_pos c14] at H
 have c14b0 : decide (x5_2 < (l0_8.length : Int)) = true := decide_eq_true c14
 clear c14
 by_cases c15 : 0 ≤ x5_2
 ·(
 rw [if_pos c15] at H
 have c15b0 : decide (0 ≤ x5_2) = true := decide_eq_true c15
 clear c15
 replace H := Dn H
 obtain ⟨t104, A160, H⟩ := H
 replace H : (if t104 = true then (At.l0 k2 a1 (wrap64 (x5_2 + 1)) a0_0 a0_1 a0_2 a0_3 a0_4 a0_5 a0_6 a0_7 l0_8) else (some false)) = some r := H
 have A16 := Aa.mk A160
 clear A160
 by_cases c17 : t104 = true
 ·(
 subst c17
 have H1 : (At.l0 k2 a1 (wrap64 (x5_2 + 1)) a0_0 a0_1 a0_2 a0_3 a0_4 a0_5 a0_6 a0_7 l0_8) = some r := by rw [if_pos rfl] at H; exact H
 clear H
 have H := H1
 clear H1
 have H' := Aa.mk H
 clear H
 obtain ⟨C18_0, C18_1, C18_2, C18_3, C18_4, C18_5, C18_6, C18_7, C18_8⟩ := cz9_ BK102.out
 obtain ⟨F18_0, F18_1, F18_2, F18_3, F18_4, F18_5, F18_6, F18_7, F18_8⟩ := fz9_ BK102.out
 have p103 : 0 ≤ (x5_2 : Int) := dt_
 have q103 : x5_2 < (l0_8.length : Int) := dt_
 obtain ⟨ad103, A103_8, c103_8, e103, hx103_0, hx103_1, hx103_2, hx103_3, hx103_4, hx103_5, hx103_6, hx103_7, hx103_8, hl103_8, hi103_8⟩ := at_T27 HR0_8.out x5_2 p103 q103
 cases e103
 replace hx103_0 := hc_ HB hx103_0
 replace hx103_1 := hc_ HB hx103_1
 replace hx103_2 := hc_ HB hx103_2
 replace hx103_3 := hc_ HB hx103_3
 replace hx103_4 := hc_ HB hx103_4
 replace hx103_5 := hc_ HB hx103_5
 replace hx103_6 := hc_ HB hx103_6
 replace hx103_7 := hc_ HB hx103_7
 replace hx103_8 := hc_ HB hx103_8
 have HR103_8 := Aa.mk hi103_8
 have HC103_8 := Aa.mk hl103_8
 clear hi103_8 hl103_8
 replace p103 := eq_true p103
 replace q103 := eq_true q103
 go_wp2_with (first | ((with_reducible refine Aw (f := 10) rfl ?_); refine gl_ (some 47) rfl Try.func10 #[.agg #[.int .i64 ((Al l0_8 x5_2).f0), .string ((Al l0_8 x5_2).f1), .int .i64 ((Al l0_8 x5_2).f2), .bool ((Al l0_8 x5_2).f3.f0), .int .i64 ((Al l0_8 x5_2).f3.f1), .string ((Al l0_8 x5_2).f3.f2), .int .i64 ((Al l0_8 x5_2).f4), .string ((Al l0_8 x5_2).f5), .slice A103_8 ((Al l0_8 x5_2).f6).length c103_8], .int .i64 (wrap64 (a1 - 1))] ?_; (with_reducible refine (ih k2 (by have := HJ2.out; have := HK2.out; omega) ((Al l0_8 x5_2).f0) ((Al l0_8 x5_2).f1) ((Al l0_8 x5_2).f2) ((Al l0_8 x5_2).f3.f0) ((Al l0_8 x5_2).f3.f1) ((Al l0_8 x5_2).f3.f2) ((Al l0_8 x5_2).f4) ((Al l0_8 x5_2).f5) _ _ ((Al l0_8 x5_2).f6) (wrap64 (a1 - 1)) true _ ?side1 ?side2 A16.out).mono ?_); (case side1 => repeat (first | exact (Kd.C_below HR103_8.out HB.out) | (with_reducible refine Kd.C_alloc ?_ _) | (with_reducible refine Kd.C_drewN ?_ _) | (with_reducible refine Kd.C_drew ?_))); (case side2 => exact HC103_8.out); rintro e w19 ⟨rfl, hb⟩; refine ⟨_, rfl, ?_⟩;  replace BK102 := bk_ BK102 hb; replace HB := bs_ HB hb; (try clear hb)))
 go_roundg k2
 case measure => have := HJ2.out; have := HK2.out; omega
 case rel => exact ⟨_, (by first | rfl | (simp; done) | (simp [*]; done)), H', ⟨by have := HJ2.out; have := HK2.out; omega⟩, ⟨by (with_reducible repeat (first | refine Ag ?_ _ | refine Af ?_ | refine Ae ?_ _)); exact BK102.out⟩, ⟨by repeat (first | (with_reducible first | exact HB.out | apply Ak | apply Ah | apply Aj | refine Ao ?_ GE102.out) | exact HB.out)⟩⟩)
 ·(
 replace c17 := Dq c17
 subst c17
 have H1 : (some false) = some r := by rw [if_neg (show ¬ (false = true) by decide)] at H; exact H
 clear H
 have H := H1
 clear H1
 obtain rfl := Dp H
 obtain ⟨C20_0, C20_1, C20_2, C20_3, C20_4, C20_5, C20_6, C20_7, C20_8⟩ := cz9_ BK102.out
 obtain ⟨F20_0, F20_1, F20_2, F20_3, F20_4, F20_5, F20_6, F20_7, F20_8⟩ := fz9_ BK102.out
 have p103 : 0 ≤ (x5_2 : Int) := dt_
 have q103 : x5_2 < (l0_8.length : Int) := dt_
 obtain ⟨ad103, A103_8, c103_8, e103, hx103_0, hx103_1, hx103_2, hx103_3, hx103_4, hx103_5, hx103_6, hx103_7, hx103_8, hl103_8, hi103_8⟩ := at_T27 HR0_8.out x5_2 p103 q103
 cases e103
 replace hx103_0 := hc_ HB hx103_0
 replace hx103_1 := hc_ HB hx103_1
 replace hx103_2 := hc_ HB hx103_2
 replace hx103_3 := hc_ HB hx103_3
 replace hx103_4 := hc_ HB hx103_4
 replace hx103_5 := hc_ HB hx103_5
 replace hx103_6 := hc_ HB hx103_6
 replace hx103_7 := hc_ HB hx103_7
 replace hx103_8 := hc_ HB hx103_8
 have HR103_8 := Aa.mk hi103_8
 have HC103_8 := Aa.mk hl103_8
 clear hi103_8 hl103_8
 replace p103 := eq_true p103
 replace q103 := eq_true q103
 go_wp2_with (first | ((with_reducible refine Aw (f := 10) rfl ?_); refine gl_ (some 47) rfl Try.func10 #[.agg #[.int .i64 ((Al l0_8 x5_2).f0), .string ((Al l0_8 x5_2).f1), .int .i64 ((Al l0_8 x5_2).f2), .bool ((Al l0_8 x5_2).f3.f0), .int .i64 ((Al l0_8 x5_2).f3.f1), .string ((Al l0_8 x5_2).f3.f2), .int .i64 ((Al l0_8 x5_2).f4), .string ((Al l0_8 x5_2).f5), .slice A103_8 ((Al l0_8 x5_2).f6).length c103_8], .int .i64 (wrap64 (a1 - 1))] ?_; (with_reducible refine (ih k2 (by have := HJ2.out; have := HK2.out; omega) ((Al l0_8 x5_2).f0) ((Al l0_8 x5_2).f1) ((Al l0_8 x5_2).f2) ((Al l0_8 x5_2).f3.f0) ((Al l0_8 x5_2).f3.f1) ((Al l0_8 x5_2).f3.f2) ((Al l0_8 x5_2).f4) ((Al l0_8 x5_2).f5) _ _ ((Al l0_8 x5_2).f6) (wrap64 (a1 - 1)) false _ ?side1 ?side2 A16.out).mono ?_); (case side1 => repeat (first | exact (Kd.C_below HR103_8.out HB.out) | (with_reducible refine Kd.C_alloc ?_ _) | (with_reducible refine Kd.C_drewN ?_ _) | (with_reducible refine Kd.C_drew ?_))); (case side2 => exact HC103_8.out); rintro e w21 ⟨rfl, hb⟩; refine ⟨_, rfl, ?_⟩;  replace BK102 := bk_ BK102 hb; replace HB := bs_ HB hb; (try clear hb)))
 go_ret
 exact en_ HB))
 ·(
 rw [if_neg c15] at H
 exact absurd H (by simp)))
 ·(
 rw [if_neg c14] at H
 have c14b0 : decide (x5_2 < (l0_8.length : Int)) = false := decide_eq_false c14
 clear c14
 obtain rfl := Dp H
 obtain ⟨C22_0, C22_1, C22_2, C22_3, C22_4, C22_5, C22_6, C22_7, C22_8⟩ := cz9_ BK102.out
 obtain ⟨F22_0, F22_1, F22_2, F22_3, F22_4, F22_5, F22_6, F22_7, F22_8⟩ := fz9_ BK102.out
 go_wp2
 go_ret
 exact en_ HB))))))
theorem live21 : Bn.f 60 = some true := by decide +kernel
def TotP {α : Type} (P : α → Prop) (g : Nat → Option α) : Prop := ∃ r, Ev g r ∧ P r
theorem TotP.some_ {α : Type} {P : α → Prop} {r : α} (h : P r) : TotP P (fun _ => some r) := ⟨r, Ev.now r, h⟩
theorem TotP.ite {α : Type} {P : α → Prop} {c : Prop} [Decidable c] {f g : Nat → Option α} (h : c → TotP P f) (h' : ¬ c → TotP P g) : TotP P (fun k => if c then f k else g k) := by
 by_cases hc : c
 ·simp only [if_pos hc]; exact h hc
 ·simp only [if_neg hc]; exact h' hc
theorem TotP.bind {α β : Type} {P : α → Prop} {Q : β → Prop} {g : Nat → Option α} {f : Nat → α → Option β} (h : TotP P g) (k : ∀ x, P x → TotP Q (fun n => f n x)) : TotP Q (fun n => (g n).bind (f n)) := by
 obtain ⟨x, hx, hp⟩ := h
 obtain ⟨r, hr, hq⟩ := k x hp
 exact ⟨r, Ev.bind hx hr, hq⟩
theorem TotP.succ {α : Type} {P : α → Prop} {g f : Nat → Option α} (h : ∀ k, g (k + 1) = f k) (k : TotP P f) : TotP P g := by
 obtain ⟨r, hr, hp⟩ := k
 exact ⟨r, Ev.step h hr, hp⟩
theorem Lens.le : ∀ (d e : Nat) (x : S27), d ≤ e → Lens e x → Lens d x
  | 0, _, _, _, _ => trivial
  | d + 1, 0, _, h, _ => by omega
  | d + 1, e + 1, x, h, hl => ⟨hl.1, fun y hy => Lens.le d e y (by omega) (hl.2 y hy)⟩
def cntL (f : S27 → Option Nat) : List S27 → Option Nat
  | [] => some 0
  | y :: r => (f y).bind fun a => (cntL f r).bind fun b => some (a + b)
def cnt : Nat → S27 → Option Nat
  | 0, _ => none
  | d + 1, x => (cntL (cnt d) x.f6).bind fun a => some (a + 1)
def AllL (p : S27 → Bool) : Nat → S27 → Prop
  | 0, _ => True
  | d + 1, x => p x = true ∧ ∀ y, y ∈ x.f6 → AllL p d y
def locB (x : S27) : Bool := fieldsB x && kidsB x.f0 x.f6
theorem mayStep_at (x : S27) (n : Nat) (hn : n ≤ 16) : mayStep x (n : Int) = (decide (n + 1 ≤ 16) && locB x, ((n + 1 : Nat) : Int)) := by
 have e : wrap64 ((n : Int) + 1) = ((n + 1 : Nat) : Int) := by rw [wrap_in (by omega) (by omega)]; omega
 unfold mayStep locB
 rw [e]
 congr 2
 by_cases h : n + 1 ≤ 16
 ·rw [decide_eq_true h, decide_eq_true (by omega)]
 ·rw [decide_eq_false h, decide_eq_false (by omega)]
theorem ev_may : ∀ (d : Nat) (x : S27) (n : Nat), n ≤ 16 → ((ev mayStep d x (n : Int)).1 = true ↔ ∃ c, cnt d x = some c ∧ n + c ≤ 16 ∧ AllL locB d x) ∧
    (∀ c, cnt d x = some c → n + c ≤ 16 → AllL locB d x → (ev mayStep d x (n : Int)).2 = ((n + c : Nat) : Int)) := by
 intro d
 induction d with
 | zero => intro x n hn; simp [ev, cnt]
 | succ d ih =>(
 intro x n hn
 have key : ∀ (l : List S27) (n : Nat), n ≤ 16 → ((evL (ev mayStep d) l (n : Int)).1 = true ↔ ∃ c, cntL (cnt d) l = some c ∧ n + c ≤ 16 ∧ ∀ y, y ∈ l → AllL locB d y) ∧
    (∀ c, cntL (cnt d) l = some c → n + c ≤ 16 → (∀ y, y ∈ l → AllL locB d y) → (evL (ev mayStep d) l (n : Int)).2 = ((n + c : Nat) : Int)) := by
  intro l
  induction l with
  | nil =>
    intro n hn
    refine ⟨⟨fun _ => ⟨0, rfl, hn, by simp⟩, fun _ => by simp [evL]⟩, fun c hc _ _ => ?_⟩
    have : c = 0 := by simpa [cntL] using hc.symm
    subst this
    simp [evL]
  | cons y r ihl =>
    intro n hn
    obtain ⟨h1, h2⟩ := ih y n hn
    constructor
    · constructor
      · intro h
        unfold evL at h
        cases hb : (ev mayStep d y (n : Int)).1 with
        | false => rw [hb] at h; simp at h
        | true =>
          obtain ⟨a, ha, han, hal⟩ := h1.1 hb
          rw [hb, h2 a ha han hal] at h
          obtain ⟨b, hbb, hbn, hbl⟩ := (ihl (n + a) han).1.1 (by simpa using h)
          refine ⟨a + b, by simp [cntL, ha, hbb], by omega, fun z hz => ?_⟩
          rcases List.mem_cons.1 hz with rfl | hz
          · exact hal
          · exact hbl z hz
      · rintro ⟨c, hc, hcn, hcl⟩
        obtain ⟨a, ha, hc⟩ := Option.bind_eq_some_iff.1 hc
        obtain ⟨b, hb, hc⟩ := Option.bind_eq_some_iff.1 hc
        have hc : a + b = c := by simpa using hc
        have hal := hcl y (by simp)
        have e1 : (ev mayStep d y (n : Int)).1 = true := h1.2 ⟨a, ha, by omega, hal⟩
        have e2 := h2 a ha (by omega) hal
        unfold evL
        rw [e1, e2]
        simpa using (ihl (n + a) (by omega)).1.2 ⟨b, hb, by omega, fun z hz => hcl z (by simp [hz])⟩
    · intro c hc hcn hcl
      obtain ⟨a, ha, hc⟩ := Option.bind_eq_some_iff.1 hc
      obtain ⟨b, hb, hc⟩ := Option.bind_eq_some_iff.1 hc
      have hc : a + b = c := by simpa using hc
      have hal := hcl y (by simp)
      have e1 : (ev mayStep d y (n : Int)).1 = true := h1.2 ⟨a, ha, by omega, hal⟩
      have e2 := h2 a ha (by omega) hal
      unfold evL
      rw [e1, e2]
      have := (ihl (n + a) (by omega)).2 b hb (by omega) (fun z hz => hcl z (by simp [hz]))
      simp only [if_true] at this ⊢
      rw [this]
      congr 1
      omega
 have hs := mayStep_at x n hn
 constructor
 ·(
 constructor
 ·(
 intro h
 unfold ev at h
 rw [hs] at h
 by_cases hl : (decide (n + 1 ≤ 16) && locB x) = true
 ·(
 simp only [hl, if_true] at h
 simp only [Bool.and_eq_true, decide_eq_true_eq] at hl
 obtain ⟨c, hc, hcn, hcl⟩ := (key x.f6 (n + 1) hl.1).1.1 h
 exact ⟨c + 1, by simp [cnt, hc], by omega, hl.2, hcl⟩)
 ·(
 have hl' : (decide (n + 1 ≤ 16) && locB x) = false := Bool.eq_false_iff.2 hl
 simp only [hl', if_false, Bool.false_eq_true] at h))
 ·(
 rintro ⟨c, hc, hcn, hx, hcl⟩
 obtain ⟨a, ha, hc⟩ := Option.bind_eq_some_iff.1 hc
 have hc : a + 1 = c := by simpa using hc
 unfold ev
 rw [hs]
 have hl : (decide (n + 1 ≤ 16) && locB x) = true := by simp [hx]; omega
 simp only [hl, if_true]
 exact (key x.f6 (n + 1) (by omega)).1.2 ⟨a, ha, by omega, hcl⟩))
 ·(
 rintro c hc hcn ⟨hx, hcl⟩
 obtain ⟨a, ha, hc⟩ := Option.bind_eq_some_iff.1 hc
 have hc : a + 1 = c := by simpa using hc
 unfold ev
 rw [hs]
 have hl : (decide (n + 1 ≤ 16) && locB x) = true := by simp [hx]; omega
 simp only [hl, if_true]
 rw [(key x.f6 (n + 1) (by omega)).2 a ha (by omega) hcl]
 congr 1
 omega))
mutual
def Az.j0 : Nat → Int → Int → Bool → Int → ByteArray → Int → Bool → Int → ByteArray → Int → ByteArray → List (S27) → Option (Int)
 | 0, _, _, _, _, _, _, _, _, _, _, _, _ => none
 | k + 1, x1, x2, x14, x253000, x253001, x253002, x253003, x253004, x253005, x253006, x253007, x253008 => if x14 = true then (some 17) else (Az.l0 k x1 x2 1 0 x253000 x253001 x253002 x253003 x253004 x253005 x253006 x253007 x253008)
def Az.l0 : Nat → Int → Int → Int → Int → Int → ByteArray → Int → Bool → Int → ByteArray → Int → ByteArray → List (S27) → Option (Int)
 | 0, _, _, _, _, _, _, _, _, _, _, _, _, _ => none
 | k + 1, x1, x2, x7, x8, x253000, x253001, x253002, x253003, x253004, x253005, x253006, x253007, x253008 => if x8 < (x253008.length : Int) then (if x7 ≤ 16 then (if 0 ≤ x8 then ((Az.f k ((Al x253008 x8).f0) ((Al x253008 x8).f1) ((Al x253008 x8).f2) ((Al x253008 x8).f3.f0) ((Al x253008 x8).f3.f1) ((Al x253008 x8).f3.f2) ((Al x253008 x8).f4) ((Al x253008 x8).f5) ((Al x253008 x8).f6) (wrap64 (x1 - x7)) (wrap64 (x2 - 1))).bind fun t254 => (Az.l0 k x1 x2 (wrap64 (x7 + t254)) (wrap64 (x8 + 1)) x253000 x253001 x253002 x253003 x253004 x253005 x253006 x253007 x253008)) else (none)) else (some x7)) else (some x7)
def Az.f : Nat → Int → ByteArray → Int → Bool → Int → ByteArray → Int → ByteArray → List (S27) → Int → Int → Option (Int)
 | 0, _, _, _, _, _, _, _, _, _, _, _ => none
 | k + 1, a0_0, a0_1, a0_2, a0_3, a0_4, a0_5, a0_6, a0_7, l0_8, a1, a2 => if a2 < 1 then (Az.j0 k a1 a2 true a0_0 a0_1 a0_2 a0_3 a0_4 a0_5 a0_6 a0_7 l0_8) else (Az.j0 k a1 a2 (decide (a1 < 1)) a0_0 a0_1 a0_2 a0_3 a0_4 a0_5 a0_6 a0_7 l0_8)
end
theorem Az.mono_l : ∀ k, (∀ y0 y1 y2 y3 y4 y5 y6 y7 y8 y9 y10, LeO (Az.f k y0 y1 y2 y3 y4 y5 y6 y7 y8 y9 y10) (Az.f (k + 1) y0 y1 y2 y3 y4 y5 y6 y7 y8 y9 y10)) ∧ (∀ y0 y1 y2 y3 y4 y5 y6 y7 y8 y9 y10 y11, LeO (Az.j0 k y0 y1 y2 y3 y4 y5 y6 y7 y8 y9 y10 y11) (Az.j0 (k + 1) y0 y1 y2 y3 y4 y5 y6 y7 y8 y9 y10 y11)) ∧ (∀ y0 y1 y2 y3 y4 y5 y6 y7 y8 y9 y10 y11 y12, LeO (Az.l0 k y0 y1 y2 y3 y4 y5 y6 y7 y8 y9 y10 y11 y12) (Az.l0 (k + 1) y0 y1 y2 y3 y4 y5 y6 y7 y8 y9 y10 y11 y12))
 | 0 => ⟨fun _ _ _ _ _ _ _ _ _ _ _ r h => by simp [Az.f] at h, fun _ _ _ _ _ _ _ _ _ _ _ _ r h => by simp [Az.j0] at h, fun _ _ _ _ _ _ _ _ _ _ _ _ _ r h => by simp [Az.l0] at h⟩
 | k + 1 => by
  obtain ⟨ih0, ih1, ih2⟩ := Az.mono_l k
  refine ⟨?_, ?_, ?_⟩
  focus intro y0 y1 y2 y3 y4 y5 y6 y7 y8 y9 y10;unfold Az.f
  rotate_left
  focus intro y0 y1 y2 y3 y4 y5 y6 y7 y8 y9 y10 y11;unfold Az.j0
  rotate_left
  focus intro y0 y1 y2 y3 y4 y5 y6 y7 y8 y9 y10 y11 y12;unfold Az.l0
  rotate_left
  all_goals repeat' first|(with_reducible first|exact ih0 _ _ _ _ _ _ _ _ _ _ _|exact ih1 _ _ _ _ _ _ _ _ _ _ _ _|exact ih2 _ _ _ _ _ _ _ _ _ _ _ _ _|exact LeO.refl _|exact LeO.none _|refine LeO.ite ?_ ?_|refine LeO.bind ?_ fun _=>?_)|exact ih0 _ _ _ _ _ _ _ _ _ _ _|exact ih1 _ _ _ _ _ _ _ _ _ _ _ _|exact ih2 _ _ _ _ _ _ _ _ _ _ _ _ _|exact LeO.none _|refine LeO.ite ?_ ?_|refine LeO.bind ?_ fun _=>?_
theorem Az.mono : ∀ a0 a1 a2 a3 a4 a5 a6 a7 a8 a9 a10 k, LeO (Az.f k a0 a1 a2 a3 a4 a5 a6 a7 a8 a9 a10) (Az.f (k + 1) a0 a1 a2 a3 a4 a5 a6 a7 a8 a9 a10) := by
 intro a0 a1 a2 a3 a4 a5 a6 a7 a8 a9 a10 k
 obtain ⟨ih0, ih1, ih2⟩ := Az.mono_l k
 exact ih0 a0 a1 a2 a3 a4 a5 a6 a7 a8 a9 a10
theorem Az.calls (k : Nat) : ∀ (a0_0 : Int) (a0_1 : ByteArray) (a0_2 : Int) (a0_3 : Bool) (a0_4 : Int) (a0_5 : ByteArray) (a0_6 : Int) (a0_7 : ByteArray) (A0_8 : Option Addr) (c0_8 : Nat) (l0_8 : List (S27)) (a1 : Int) (a2 : Int) (r : Int) (w : World) (hr0_8 : Kd.C k27 w A0_8 l0_8.length l0_8) (hc0_8 : l0_8.length ≤ c0_8) (h : Az.f k a0_0 a0_1 a0_2 a0_3 a0_4 a0_5 a0_6 a0_7 l0_8 a1 a2 = some r),
  Calls Try.prog 77 #[.agg #[.int .i64 a0_0, .string a0_1, .int .i64 a0_2, .bool a0_3, .int .i64 a0_4, .string a0_5, .int .i64 a0_6, .string a0_7, .slice A0_8 l0_8.length c0_8], .int .i64 a1, .int .i64 a2] w fun e w' => e = .returned (.int .i64 r) ∧ Below w.heap.size w w' := by
 induction k using Nat.strongRecOn with
 | _ k ih =>
 intro a0_0 a0_1 a0_2 a0_3 a0_4 a0_5 a0_6 a0_7 A0_8 c0_8 l0_8 a1 a2 r w hr0_8 hc0_8 h
 cases k with
 | zero => exact absurd h (by simp [Az.f])
 | succ k =>
 simp only [Az.f] at h
 have hu27 := Try.underlying27
 have HR0_8 := Aa.mk hr0_8
 have HC0_8 := Aa.mk hc0_8
 clear hr0_8 hc0_8
 have HB := Aa.mk (Below.refl w.heap.size w)
 have H : (if a2 < 1 then (Az.j0 k a1 a2 true a0_0 a0_1 a0_2 a0_3 a0_4 a0_5 a0_6 a0_7 l0_8) else (Az.j0 k a1 a2 (decide (a1 < 1)) a0_0 a0_1 a0_2 a0_3 a0_4 a0_5 a0_6 a0_7 l0_8)) = some r := h
 clear h
 have HC4 := Aa.mk H
 clear H
 go_enter Try.func77, Try.ntmps77
 go_upto_region 1 with (first | (refine bx_ (N := 3) (cs := #[.int .i64 a0_0, .string a0_1, .int .i64 a0_2, .bool a0_3, .int .i64 a0_4, .string a0_5, .int .i64 a0_6, .string a0_7, .slice A0_8 l0_8.length c0_8]) (t := 27) ?_; intro gb252 hg w5 hbox hb; have BK252 := Aa.mk (hbox); have GW252 := ge_ HB hg; have GE252 := ge_ HB hg; replace HB := bs_ HB hb; clear hb hbox hg))
 (try simp only [Act.put, List.setIfInBounds_toArray, List.set_cons_zero, List.set_cons_succ])
 go_cut [14] (fun v14 wc => ∃ (kq : Nat) (x14_3 : Bool), v14 = .bool x14_3 ∧ Aa (Az.j0 kq a1 a2 x14_3 a0_0 a0_1 a0_2 a0_3 a0_4 a0_5 a0_6 a0_7 l0_8 = some r) ∧ Aa (kq ≤ k) ∧ Aa (wc.heap[gb252]? = some (.cells #[.int .i64 a0_0, .string a0_1, .int .i64 a0_2, .bool a0_3, .int .i64 a0_4, .string a0_5, .int .i64 a0_6, .string a0_7, (.slice A0_8 l0_8.length c0_8)] 27 (0, 0))) ∧ Aa (Below w.heap.size w wc))
 case first =>(
 have H := HC4.out
 clear HC4
 by_cases c6 : a2 < 1
 rotate_left
 focus(
 rw [if_neg c6] at H
 have c6b0 : decide (a2 < 1) = false := decide_eq_false c6)
 rotate_right
 focus(
 rw [if_pos c6] at H
 have c6b0 : decide (a2 < 1) = true := decide_eq_true c6)
 all_goals(
 clear c6
 (first | rw [c6b0] | (simp only [i64_w, i32_w]; rw [c6b0]) | skip)
 have H' := Aa.mk H
 clear H
 go_wp2
 go_meet
 case rel => exact ⟨_, _, (by first | rfl | (simp; done) | (simp [*]; done)), H', ⟨by first | omega | exact Nat.le_refl _⟩, ⟨by (with_reducible repeat (first | refine Ag ?_ _ | refine Af ?_ | refine Ae ?_ _)); exact BK252.out⟩, ⟨by repeat (first | (with_reducible first | exact HB.out | apply Ak | apply Ah | apply Aj | refine Ao ?_ GE252.out) | exact HB.out)⟩⟩))
 case rest =>(
 clear HC4
 try clear c6
 try clear c6b0
 obtain ⟨kq, x14_3, rfl, HA, HJ3, BK252, HB⟩ := hcut
 cases kq with
 | zero => exact absurd HA.out (by simp [Az.j0])
 | succ kj3 =>(
 have H := HA.out
 clear HA
 simp only [Az.j0] at H
 by_cases c7 : x14_3 = true
 ·(
 subst c7
 have H1 : (some 17) = some r := by rw [if_pos rfl] at H; exact H
 clear H
 have H := H1
 clear H1
 obtain rfl := Dp H
 go_wp2
 go_ret
 exact en_ HB)
 ·(
 replace c7 := Dq c7
 subst c7
 have H1 : (Az.l0 kj3 a1 a2 1 0 a0_0 a0_1 a0_2 a0_3 a0_4 a0_5 a0_6 a0_7 l0_8) = some r := by rw [if_neg (show ¬ (false = true) by decide)] at H; exact H
 clear H
 have H := H1
 clear H1
 have H' := Aa.mk H
 clear H
 go_wp2
 go_loopg [7, 8] kj3 (fun kq v7 v8 w' => ∃ (x7_2 : Int) (x8_2 : Int), v7 = .int .i64 x7_2 ∧ v8 = .int .i64 x8_2 ∧ Aa (Az.l0 kq a1 a2 x7_2 x8_2 a0_0 a0_1 a0_2 a0_3 a0_4 a0_5 a0_6 a0_7 l0_8 = some r) ∧ Aa (kq ≤ kj3) ∧ Aa (w'.heap[gb252]? = some (.cells #[.int .i64 a0_0, .string a0_1, .int .i64 a0_2, .bool a0_3, .int .i64 a0_4, .string a0_5, .int .i64 a0_6, .string a0_7, (.slice A0_8 l0_8.length c0_8)] 27 (0, 0))) ∧ Aa (Below w.heap.size w w'))
 case atStart => exact ⟨_, _, (by first | rfl | (simp; done) | (simp [*]; done)), (by first | rfl | (simp; done) | (simp [*]; done)), H', ⟨Nat.le_refl _⟩, ⟨by (with_reducible repeat (first | refine Ag ?_ _ | refine Af ?_ | refine Ae ?_ _)); exact BK252.out⟩, ⟨by repeat (first | (with_reducible first | exact HB.out | apply Ak | apply Ah | apply Aj | refine Ao ?_ GE252.out) | exact HB.out)⟩⟩
 case round =>(
 clear H'
 try clear c7
 obtain ⟨x7_2, x8_2, rfl, rfl, HA, HK2, BK252, HB⟩ := hrel
 cases gk with
 | zero => exact absurd HA.out (by simp [Az.l0])
 | succ k2 =>(
 have H := HA.out
 clear HA
 simp only [Az.l0] at H
 by_cases c8 : x8_2 < (l0_8.length : Int)
 ·(
 rw [if_pos c8] at H
 have c8b0 : decide (x8_2 < (l0_8.length : Int)) = true := decide_eq_true c8
 clear c8
 by_cases c9 : x7_2 ≤ 16
 ·(
 rw [if_pos c9] at H
 have c9b0 : decide (x7_2 ≤ 16) = true := decide_eq_true c9
 clear c9
 by_cases c10 : 0 ≤ x8_2
 ·(
 rw [if_pos c10] at H
 have c10b0 : decide (0 ≤ x8_2) = true := decide_eq_true c10
 clear c10
 replace H := Dn H
 obtain ⟨t254, A110, H⟩ := H
 replace H : (Az.l0 k2 a1 a2 (wrap64 (x7_2 + t254)) (wrap64 (x8_2 + 1)) a0_0 a0_1 a0_2 a0_3 a0_4 a0_5 a0_6 a0_7 l0_8) = some r := H
 have A11 := Aa.mk A110
 clear A110
 have H' := Aa.mk H
 clear H
 obtain ⟨C12_0, C12_1, C12_2, C12_3, C12_4, C12_5, C12_6, C12_7, C12_8⟩ := cz9_ BK252.out
 obtain ⟨F12_0, F12_1, F12_2, F12_3, F12_4, F12_5, F12_6, F12_7, F12_8⟩ := fz9_ BK252.out
 have p253 : 0 ≤ (x8_2 : Int) := dt_
 have q253 : x8_2 < (l0_8.length : Int) := dt_
 obtain ⟨ad253, A253_8, c253_8, e253, hx253_0, hx253_1, hx253_2, hx253_3, hx253_4, hx253_5, hx253_6, hx253_7, hx253_8, hl253_8, hi253_8⟩ := at_T27 HR0_8.out x8_2 p253 q253
 cases e253
 replace hx253_0 := hc_ HB hx253_0
 replace hx253_1 := hc_ HB hx253_1
 replace hx253_2 := hc_ HB hx253_2
 replace hx253_3 := hc_ HB hx253_3
 replace hx253_4 := hc_ HB hx253_4
 replace hx253_5 := hc_ HB hx253_5
 replace hx253_6 := hc_ HB hx253_6
 replace hx253_7 := hc_ HB hx253_7
 replace hx253_8 := hc_ HB hx253_8
 have HR253_8 := Aa.mk hi253_8
 have HC253_8 := Aa.mk hl253_8
 clear hi253_8 hl253_8
 replace p253 := eq_true p253
 replace q253 := eq_true q253
 go_wp2_with (first | ((with_reducible refine Aw (f := 77) rfl ?_); refine gl_ (some 37) rfl Try.func77 #[.agg #[.int .i64 ((Al l0_8 x8_2).f0), .string ((Al l0_8 x8_2).f1), .int .i64 ((Al l0_8 x8_2).f2), .bool ((Al l0_8 x8_2).f3.f0), .int .i64 ((Al l0_8 x8_2).f3.f1), .string ((Al l0_8 x8_2).f3.f2), .int .i64 ((Al l0_8 x8_2).f4), .string ((Al l0_8 x8_2).f5), .slice A253_8 ((Al l0_8 x8_2).f6).length c253_8], .int .i64 (wrap64 (a1 - x7_2)), .int .i64 (wrap64 (a2 - 1))] ?_; (with_reducible refine (ih k2 (by have := HJ3.out; have := HK2.out; omega) ((Al l0_8 x8_2).f0) ((Al l0_8 x8_2).f1) ((Al l0_8 x8_2).f2) ((Al l0_8 x8_2).f3.f0) ((Al l0_8 x8_2).f3.f1) ((Al l0_8 x8_2).f3.f2) ((Al l0_8 x8_2).f4) ((Al l0_8 x8_2).f5) _ _ ((Al l0_8 x8_2).f6) (wrap64 (a1 - x7_2)) (wrap64 (a2 - 1)) t254 _ ?side1 ?side2 A11.out).mono ?_); (case side1 => repeat (first | exact (Kd.C_below HR253_8.out HB.out) | (with_reducible refine Kd.C_alloc ?_ _) | (with_reducible refine Kd.C_drewN ?_ _) | (with_reducible refine Kd.C_drew ?_))); (case side2 => exact HC253_8.out); rintro e w13 ⟨rfl, hb⟩; refine ⟨_, rfl, ?_⟩;  replace BK252 := bk_ BK252 hb; replace HB := bs_ HB hb; (try clear hb)))
 go_roundg k2
 case measure => have := HJ3.out; have := HK2.out; omega
 case rel => exact ⟨_, _, (by first | rfl | (simp; done) | (simp [*]; done)), (by first | rfl | (simp; done) | (simp [*]; done)), H', ⟨by have := HJ3.out; have := HK2.out; omega⟩, ⟨by (with_reducible repeat (first | refine Ag ?_ _ | refine Af ?_ | refine Ae ?_ _)); exact BK252.out⟩, ⟨by repeat (first | (with_reducible first | exact HB.out | apply Ak | apply Ah | apply Aj | refine Ao ?_ GE252.out) | exact HB.out)⟩⟩)
 ·(
 rw [if_neg c10] at H
 exact absurd H (by simp)))
 ·(
 rw [if_neg c9] at H
 have c9b0 : decide (x7_2 ≤ 16) = false := decide_eq_false c9
 clear c9
 obtain rfl := Dp H
 obtain ⟨C14_0, C14_1, C14_2, C14_3, C14_4, C14_5, C14_6, C14_7, C14_8⟩ := cz9_ BK252.out
 obtain ⟨F14_0, F14_1, F14_2, F14_3, F14_4, F14_5, F14_6, F14_7, F14_8⟩ := fz9_ BK252.out
 go_wp2
 go_ret
 exact en_ HB))
 ·(
 rw [if_neg c8] at H
 have c8b0 : decide (x8_2 < (l0_8.length : Int)) = false := decide_eq_false c8
 clear c8
 obtain rfl := Dp H
 obtain ⟨C15_0, C15_1, C15_2, C15_3, C15_4, C15_5, C15_6, C15_7, C15_8⟩ := cz9_ BK252.out
 obtain ⟨F15_0, F15_1, F15_2, F15_3, F15_4, F15_5, F15_6, F15_7, F15_8⟩ := fz9_ BK252.out
 go_wp2
 go_ret
 exact en_ HB))))))
def SizeP (d : Nat) (m : Int) (x : S27) (s : Int) : Prop :=
  1 ≤ s ∧ s ≤ 17 + 17 * d ∧ (s ≤ 16 → cnt d x = some s.toNat ∧ s ≤ m) ∧ ∀ c, cnt d x = some c → (c : Int) ≤ m → s = (c : Int)
theorem cnt_pos (d : Nat) (x : S27) (c : Nat) (h : cnt d x = some c) : 1 ≤ c := by
 cases d with
 | zero => simp [cnt] at h
 | succ d =>(
 obtain ⟨a, _, h⟩ := Option.bind_eq_some_iff.1 h
 have : a + 1 = c := by simpa using h
 omega)
theorem size_at : ∀ (d : Nat) (m : Int) (x : S27), d ≤ 100 → m ≤ 16 → Lens d x →
    TotP (SizeP d m x) (fun k => Az.f k x.f0 x.f1 x.f2 x.f3.f0 x.f3.f1 x.f3.f2 x.f4 x.f5 x.f6 m (d : Int)) := by
 intro d
 induction d with
 | zero =>(
 intro m x _ hm _
 refine TotP.succ (fun k => by simp only [Az.f]; rfl) ?_
 refine TotP.ite (fun _ => ?_) (fun h => absurd (by omega) h)
 refine TotP.succ (fun k => by simp only [Az.j0]; rfl) ?_
 exact TotP.ite (fun _ => TotP.some_ ⟨by omega, by omega, by omega, by simp [cnt]⟩) (fun h => absurd trivial h))
 | succ d ih =>(
 intro m x hd hm hL
 refine TotP.succ (fun k => by simp only [Az.f]; rfl) ?_
 refine TotP.ite (fun h => absurd h (by omega)) (fun _ => ?_)
 refine TotP.succ (fun k => by simp only [Az.j0]; rfl) ?_
 refine TotP.ite (fun h => TotP.some_ ⟨by omega, by omega, by omega, fun c hc hcm => ?_⟩) (fun h => ?_)
 ·(
 have h1 := of_decide_eq_true h
 have := cnt_pos _ _ _ hc
 omega)
 have h1 : ¬ m < 1 := fun h2 => h (decide_eq_true h2)
 have hlen : x.f6.length ≤ 9223372036854775806 := hL.1
 have key : ∀ (r : List S27) (i : Nat) (n : Int), x.f6.drop i = r → i ≤ x.f6.length → 1 ≤ n → n ≤ 17 + 17 * d + 17 → (n ≤ 16 → n ≤ m) →
    TotP (fun s : Int => 1 ≤ s ∧ s ≤ 17 + 17 * d + 17 ∧ (s ≤ 16 → ∃ b, cntL (cnt d) r = some b ∧ s = n + (b : Int) ∧ s ≤ m) ∧ ∀ b, cntL (cnt d) r = some b → n + (b : Int) ≤ m → s = n + (b : Int))
      (fun k => Az.l0 k m ((d + 1 : Nat) : Int) n (i : Int) x.f0 x.f1 x.f2 x.f3.f0 x.f3.f1 x.f3.f2 x.f4 x.f5 x.f6) := by
  intro r
  induction r with
  | nil =>
    intro i n hr hi hn hb hnm
    have hi' : i = x.f6.length := by
      have := congrArg List.length hr
      simp at this
      omega
    refine TotP.succ (fun k => by simp only [Az.l0]; rfl) ?_
    refine TotP.ite (fun h => absurd h (by omega)) (fun _ => TotP.some_ ⟨hn, hb, fun h => ⟨0, rfl, by simp, hnm h⟩, fun b hbb _ => ?_⟩)
    have : b = 0 := by simpa [cntL] using hbb.symm
    subst this
    simp
  | cons y r ihr =>
    intro i n hr hi hn hb hnm
    have hi' : i < x.f6.length := by
      have := congrArg List.length hr
      simp at this
      omega
    have hy : Al x.f6 (i : Int) = y := by
      have := congrArg List.head? hr
      rw [List.head?_drop] at this
      simp [Al, List.getD_eq_getElem?_getD, this]
    have hr' : x.f6.drop (i + 1) = r := by
      have := congrArg List.tail hr
      simpa using this
    have hmem : y ∈ x.f6 := by rw [← hy]; exact rd27_mem x.f6 i hi'
    refine TotP.succ (fun k => by simp only [Az.l0]; rfl) ?_
    refine TotP.ite (fun _ => ?_) (fun h => absurd (by omega) h)
    refine TotP.ite (fun hn16 => ?_) (fun hn16 => ?_)
    · refine TotP.ite (fun _ => ?_) (fun h => absurd (by omega) h)
      have e1 : wrap64 (m - n) = m - n := wrap_in (by omega) (by omega)
      have e2 : wrap64 (((d + 1 : Nat) : Int) - 1) = (d : Int) := by rw [wrap_in (by omega) (by omega)]; omega
      rw [hy, e1, e2]
      refine TotP.bind (ih (m - n) y (by omega) (by omega) (hL.2 y hmem)) (fun s hs => ?_)
      obtain ⟨hs1, hs2, hs3, hs4⟩ := hs
      have e3 : wrap64 (n + s) = n + s := wrap_in (by omega) (by omega)
      have e4 : wrap64 ((i : Int) + 1) = ((i + 1 : Nat) : Int) := by rw [wrap_in (by omega) (by omega)]; omega
      rw [e3, e4]
      have := ihr (i + 1) (n + s) hr' (by omega) (by omega) (by omega) (fun h => by have := (hs3 (by omega)).2; omega)
      obtain ⟨t, ht, ht1, ht2, ht3, ht4⟩ := this
      refine ⟨t, ht, ht1, ht2, fun h => ?_, fun b hbb hbm => ?_⟩
      · obtain ⟨b, hb1, hb2, hb3⟩ := ht3 h
        obtain ⟨hc, _⟩ := hs3 (by omega)
        refine ⟨s.toNat + b, by simp [cntL, hc, hb1], by omega, hb3⟩
      · obtain ⟨a, ha, hbb⟩ := Option.bind_eq_some_iff.1 hbb
        obtain ⟨b', hb', hbb⟩ := Option.bind_eq_some_iff.1 hbb
        have e : a + b' = b := by simpa using hbb
        have hsa := hs4 a ha (by omega)
        rw [ht4 b' hb' (by omega)]
        omega
    · refine TotP.some_ ⟨hn, hb, fun h => absurd h hn16, fun b _ hbm => by omega⟩
 obtain ⟨t, ht, ht1, ht2, ht3, ht4⟩ := key x.f6 0 1 (by simp) (by omega) (by omega) (by omega) (by omega)
 refine ⟨t, ht, ht1, by omega, fun h => ?_, fun c hc hcm => ?_⟩
 ·(
 obtain ⟨b, hb1, hb2, hb3⟩ := ht3 h
 refine ⟨?_, hb3⟩
 simp only [cnt, hb1, Option.bind_some, Option.some.injEq]
 omega)
 ·(
 obtain ⟨a, ha, hc⟩ := Option.bind_eq_some_iff.1 hc
 have e : a + 1 = c := by simpa using hc
 rw [ht4 a ha (by omega)]
 omega))
def Cs.f  : Option (List ByteArray) := some (([(⟨#[97, 110, 100]⟩ : ByteArray), (⟨#[111, 114]⟩ : ByteArray), (⟨#[110, 111, 116]⟩ : ByteArray), (⟨#[105, 115]⟩ : ByteArray), (⟨#[110, 117, 108, 108]⟩ : ByteArray), (⟨#[108, 105, 107, 101]⟩ : ByteArray), (⟨#[116, 114, 117, 101]⟩ : ByteArray), (⟨#[102, 97, 108, 115, 101]⟩ : ByteArray), (⟨#[115, 101, 108, 101, 99, 116]⟩ : ByteArray), (⟨#[102, 114, 111, 109]⟩ : ByteArray), (⟨#[119, 104, 101, 114, 101]⟩ : ByteArray), (⟨#[103, 114, 111, 117, 112]⟩ : ByteArray), (⟨#[98, 121]⟩ : ByteArray), (⟨#[97, 108, 108]⟩ : ByteArray), (⟨#[99, 111, 117, 110, 116]⟩ : ByteArray), (⟨#[104, 97, 115]⟩ : ByteArray), (⟨#[115, 117, 109]⟩ : ByteArray), (⟨#[109, 105, 110]⟩ : ByteArray), (⟨#[109, 97, 120]⟩ : ByteArray)] : List ByteArray))
theorem Cs.calls  (r : List ByteArray) (w : World) (h : Cs.f  = some r) :
  Calls Try.prog 99 #[] w fun e w' => ∃ v0_ : Value, e = .returned (v0_) ∧ Kd.R Kd.string 9 w' w.heap.size (fun _ => True) v0_ r ∧ Below w.heap.size w w' := by
 have HB := Aa.mk (Below.refl w.heap.size w)
 have H : (some (([(⟨#[97, 110, 100]⟩ : ByteArray), (⟨#[111, 114]⟩ : ByteArray), (⟨#[110, 111, 116]⟩ : ByteArray), (⟨#[105, 115]⟩ : ByteArray), (⟨#[110, 117, 108, 108]⟩ : ByteArray), (⟨#[108, 105, 107, 101]⟩ : ByteArray), (⟨#[116, 114, 117, 101]⟩ : ByteArray), (⟨#[102, 97, 108, 115, 101]⟩ : ByteArray), (⟨#[115, 101, 108, 101, 99, 116]⟩ : ByteArray), (⟨#[102, 114, 111, 109]⟩ : ByteArray), (⟨#[119, 104, 101, 114, 101]⟩ : ByteArray), (⟨#[103, 114, 111, 117, 112]⟩ : ByteArray), (⟨#[98, 121]⟩ : ByteArray), (⟨#[97, 108, 108]⟩ : ByteArray), (⟨#[99, 111, 117, 110, 116]⟩ : ByteArray), (⟨#[104, 97, 115]⟩ : ByteArray), (⟨#[115, 117, 109]⟩ : ByteArray), (⟨#[109, 105, 110]⟩ : ByteArray), (⟨#[109, 97, 120]⟩ : ByteArray)] : List ByteArray))) = some r := h
 clear h
 obtain ⟨y256, hy256⟩ : ∃ y_ : List ByteArray, y_ = (([(⟨#[97, 110, 100]⟩ : ByteArray), (⟨#[111, 114]⟩ : ByteArray), (⟨#[110, 111, 116]⟩ : ByteArray), (⟨#[105, 115]⟩ : ByteArray), (⟨#[110, 117, 108, 108]⟩ : ByteArray), (⟨#[108, 105, 107, 101]⟩ : ByteArray), (⟨#[116, 114, 117, 101]⟩ : ByteArray), (⟨#[102, 97, 108, 115, 101]⟩ : ByteArray), (⟨#[115, 101, 108, 101, 99, 116]⟩ : ByteArray), (⟨#[102, 114, 111, 109]⟩ : ByteArray), (⟨#[119, 104, 101, 114, 101]⟩ : ByteArray), (⟨#[103, 114, 111, 117, 112]⟩ : ByteArray), (⟨#[98, 121]⟩ : ByteArray), (⟨#[97, 108, 108]⟩ : ByteArray), (⟨#[99, 111, 117, 110, 116]⟩ : ByteArray), (⟨#[104, 97, 115]⟩ : ByteArray), (⟨#[115, 117, 109]⟩ : ByteArray), (⟨#[109, 105, 110]⟩ : ByteArray), (⟨#[109, 97, 120]⟩ : ByteArray)] : List ByteArray)) := ⟨_, rfl⟩
 replace H : (some y256) = some r := by first | (rw [hy256]; with_reducible exact H) | (have H2_ := (Option.bind_some _ _).symm.trans H; rw [hy256]; with_reducible exact H2_) | (have H2_ := (Option.bind_some _ _).symm.trans H; with_reducible exact H2_) | with_reducible exact H | (rw [hy256]; exact H) | exact H
 have Ny256 := Aa.mk hy256
 clear hy256
 obtain rfl := Dp H
 go_enter Try.func99, Try.ntmps99
 go_wp2_with (first | ((with_reducible refine Cv (N := 1) rfl ?_); refine Kd.R_lit Kd.string _ 9 ?hg (N := 1) ?hd (xs := ([(⟨#[97, 110, 100]⟩ : ByteArray), (⟨#[111, 114]⟩ : ByteArray), (⟨#[110, 111, 116]⟩ : ByteArray), (⟨#[105, 115]⟩ : ByteArray), (⟨#[110, 117, 108, 108]⟩ : ByteArray), (⟨#[108, 105, 107, 101]⟩ : ByteArray), (⟨#[116, 114, 117, 101]⟩ : ByteArray), (⟨#[102, 97, 108, 115, 101]⟩ : ByteArray), (⟨#[115, 101, 108, 101, 99, 116]⟩ : ByteArray), (⟨#[102, 114, 111, 109]⟩ : ByteArray), (⟨#[119, 104, 101, 114, 101]⟩ : ByteArray), (⟨#[103, 114, 111, 117, 112]⟩ : ByteArray), (⟨#[98, 121]⟩ : ByteArray), (⟨#[97, 108, 108]⟩ : ByteArray), (⟨#[99, 111, 117, 110, 116]⟩ : ByteArray), (⟨#[104, 97, 115]⟩ : ByteArray), (⟨#[115, 117, 109]⟩ : ByteArray), (⟨#[109, 105, 110]⟩ : ByteArray), (⟨#[109, 97, 120]⟩ : ByteArray)] : List ByteArray)) (inner := [.string (⟨#[97, 110, 100]⟩ : ByteArray), .string (⟨#[111, 114]⟩ : ByteArray), .string (⟨#[110, 111, 116]⟩ : ByteArray), .string (⟨#[105, 115]⟩ : ByteArray), .string (⟨#[110, 117, 108, 108]⟩ : ByteArray), .string (⟨#[108, 105, 107, 101]⟩ : ByteArray), .string (⟨#[116, 114, 117, 101]⟩ : ByteArray), .string (⟨#[102, 97, 108, 115, 101]⟩ : ByteArray), .string (⟨#[115, 101, 108, 101, 99, 116]⟩ : ByteArray), .string (⟨#[102, 114, 111, 109]⟩ : ByteArray), .string (⟨#[119, 104, 101, 114, 101]⟩ : ByteArray), .string (⟨#[103, 114, 111, 117, 112]⟩ : ByteArray), .string (⟨#[98, 121]⟩ : ByteArray), .string (⟨#[97, 108, 108]⟩ : ByteArray), .string (⟨#[99, 111, 117, 110, 116]⟩ : ByteArray), .string (⟨#[104, 97, 115]⟩ : ByteArray), .string (⟨#[115, 117, 109]⟩ : ByteArray), .string (⟨#[109, 105, 110]⟩ : ByteArray), .string (⟨#[109, 97, 120]⟩ : ByteArray)]) (ok := fun _ => True) (okp := fun _ => True) ?hr ?hp (fun _ hk => hk) trivial (Below.refl _ _) (Nat.le_refl _) (by simp) ?_; (case hd => rfl); (case hg => rfl); (case hr => first | (go_simp; done) | (go_simp; rfl)); (case hp => exact (Reps.one (show Kd.M Kd.string _ _ _ (⟨#[97, 110, 100]⟩ : ByteArray) [.string (⟨#[97, 110, 100]⟩ : ByteArray)] from rfl) (Reps.one (show Kd.M Kd.string _ _ _ (⟨#[111, 114]⟩ : ByteArray) [.string (⟨#[111, 114]⟩ : ByteArray)] from rfl) (Reps.one (show Kd.M Kd.string _ _ _ (⟨#[110, 111, 116]⟩ : ByteArray) [.string (⟨#[110, 111, 116]⟩ : ByteArray)] from rfl) (Reps.one (show Kd.M Kd.string _ _ _ (⟨#[105, 115]⟩ : ByteArray) [.string (⟨#[105, 115]⟩ : ByteArray)] from rfl) (Reps.one (show Kd.M Kd.string _ _ _ (⟨#[110, 117, 108, 108]⟩ : ByteArray) [.string (⟨#[110, 117, 108, 108]⟩ : ByteArray)] from rfl) (Reps.one (show Kd.M Kd.string _ _ _ (⟨#[108, 105, 107, 101]⟩ : ByteArray) [.string (⟨#[108, 105, 107, 101]⟩ : ByteArray)] from rfl) (Reps.one (show Kd.M Kd.string _ _ _ (⟨#[116, 114, 117, 101]⟩ : ByteArray) [.string (⟨#[116, 114, 117, 101]⟩ : ByteArray)] from rfl) (Reps.one (show Kd.M Kd.string _ _ _ (⟨#[102, 97, 108, 115, 101]⟩ : ByteArray) [.string (⟨#[102, 97, 108, 115, 101]⟩ : ByteArray)] from rfl) (Reps.one (show Kd.M Kd.string _ _ _ (⟨#[115, 101, 108, 101, 99, 116]⟩ : ByteArray) [.string (⟨#[115, 101, 108, 101, 99, 116]⟩ : ByteArray)] from rfl) (Reps.one (show Kd.M Kd.string _ _ _ (⟨#[102, 114, 111, 109]⟩ : ByteArray) [.string (⟨#[102, 114, 111, 109]⟩ : ByteArray)] from rfl) (Reps.one (show Kd.M Kd.string _ _ _ (⟨#[119, 104, 101, 114, 101]⟩ : ByteArray) [.string (⟨#[119, 104, 101, 114, 101]⟩ : ByteArray)] from rfl) (Reps.one (show Kd.M Kd.string _ _ _ (⟨#[103, 114, 111, 117, 112]⟩ : ByteArray) [.string (⟨#[103, 114, 111, 117, 112]⟩ : ByteArray)] from rfl) (Reps.one (show Kd.M Kd.string _ _ _ (⟨#[98, 121]⟩ : ByteArray) [.string (⟨#[98, 121]⟩ : ByteArray)] from rfl) (Reps.one (show Kd.M Kd.string _ _ _ (⟨#[97, 108, 108]⟩ : ByteArray) [.string (⟨#[97, 108, 108]⟩ : ByteArray)] from rfl) (Reps.one (show Kd.M Kd.string _ _ _ (⟨#[99, 111, 117, 110, 116]⟩ : ByteArray) [.string (⟨#[99, 111, 117, 110, 116]⟩ : ByteArray)] from rfl) (Reps.one (show Kd.M Kd.string _ _ _ (⟨#[104, 97, 115]⟩ : ByteArray) [.string (⟨#[104, 97, 115]⟩ : ByteArray)] from rfl) (Reps.one (show Kd.M Kd.string _ _ _ (⟨#[115, 117, 109]⟩ : ByteArray) [.string (⟨#[115, 117, 109]⟩ : ByteArray)] from rfl) (Reps.one (show Kd.M Kd.string _ _ _ (⟨#[109, 105, 110]⟩ : ByteArray) [.string (⟨#[109, 105, 110]⟩ : ByteArray)] from rfl) (Reps.one (show Kd.M Kd.string _ _ _ (⟨#[109, 97, 120]⟩ : ByteArray) [.string (⟨#[109, 97, 120]⟩ : ByteArray)] from rfl) (Reps.none _ _))))))))))))))))))))); intro v257 w1 ho2 hb hg_ hnew_; clear hg_ hnew_; (first | rw [← Ny256.out] at ho2 | (simp only [Int.reduceToNat] at ho2; rw [← Ny256.out] at ho2)); have HO258 := Aa.mk (Kd.R_lower ho2 (Ca (by repeat (first | (with_reducible first | exact HB.out | apply Ak | apply Ah | apply Aj) | exact HB.out)))); replace HB := bs_ HB hb; clear hb ho2))
 go_ret
 exact ⟨_, by first | rfl | (simp [errW_none, errW_some] <;> rfl) | (simp [*, errW_none, errW_some] <;> rfl), by (with_reducible repeat (first | apply Kd.R_alloc | apply Kd.R_drewN | apply Kd.R_drew)); exact HO258.out, by repeat (first | (with_reducible first | exact HB.out | apply Ak | apply Ah | apply Aj) | exact HB.out)⟩
mutual
def Aq.l0 : Nat → ByteArray → Int → Option (Bool)
 | 0, _, _ => none
 | k + 1, x0, x3 => if x3 < (x0.size : Int) then (if 0 ≤ x3 then (if (bt x0 x3) ≥ 97 then (if (bt x0 x3) ≥ 48 then (if (bt x0 x3) ≤ 57 then (if ((bt x0 x3) ≤ 122) then (Aq.l0 k x0 (wrap64 (x3 + 1))) else (if x3 = 0 then (some false) else (Aq.l0 k x0 (wrap64 (x3 + 1))))) else (if ((bt x0 x3) ≤ 122) then (Aq.l0 k x0 (wrap64 (x3 + 1))) else (if x3 = 0 then (some false) else (if ((bt x0 x3) = 95) then (Aq.l0 k x0 (wrap64 (x3 + 1))) else (some false))))) else (if ((bt x0 x3) ≤ 122) then (Aq.l0 k x0 (wrap64 (x3 + 1))) else (if x3 = 0 then (some false) else (if ((bt x0 x3) = 95) then (Aq.l0 k x0 (wrap64 (x3 + 1))) else (some false))))) else (if (bt x0 x3) ≥ 48 then (if (bt x0 x3) ≤ 57 then (if x3 = 0 then (some false) else (Aq.l0 k x0 (wrap64 (x3 + 1)))) else (if x3 = 0 then (some false) else (if ((bt x0 x3) = 95) then (Aq.l0 k x0 (wrap64 (x3 + 1))) else (some false)))) else (if x3 = 0 then (some false) else (if ((bt x0 x3) = 95) then (Aq.l0 k x0 (wrap64 (x3 + 1))) else (some false))))) else (none)) else ((Cs.f).bind fun t259 => (Aq.l1 k x0 t259 0))
def Aq.l1 : Nat → ByteArray → List ByteArray → Int → Option (Bool)
 | 0, _, _, _ => none
 | k + 1, x0, x7, x8 => if x8 < (x7.length : Int) then (if 0 ≤ x8 then (if (rdOf ByteArray.empty x7 x8).toList = x0.toList then (some false) else (Aq.l1 k x0 x7 (wrap64 (x8 + 1)))) else (none)) else (if (x0.size : Int) ≥ 1 then (some (decide ((x0.size : Int) ≤ 12))) else (some false))
end
def Aq.f (k : Nat) (a0 : ByteArray) : Option (Bool) := Aq.l0 k a0 0
theorem Aq.mono_l : ∀ k, (∀ y0 y1, LeO (Aq.l0 k y0 y1) (Aq.l0 (k + 1) y0 y1)) ∧ (∀ y0 y1 y2, LeO (Aq.l1 k y0 y1 y2) (Aq.l1 (k + 1) y0 y1 y2))
 | 0 => ⟨fun _ _ r h => by simp [Aq.l0] at h, fun _ _ _ r h => by simp [Aq.l1] at h⟩
 | k + 1 => by
  obtain ⟨ih0, ih1⟩ := Aq.mono_l k
  refine ⟨?_, ?_⟩
  focus intro y0 y1;unfold Aq.l0
  rotate_left
  focus intro y0 y1 y2;unfold Aq.l1
  rotate_left
  all_goals repeat' first|(with_reducible first|exact ih0 _ _|exact ih1 _ _ _|exact LeO.refl _|exact LeO.none _|refine LeO.ite ?_ ?_|refine LeO.bind ?_ fun _=>?_)|exact ih0 _ _|exact ih1 _ _ _|exact LeO.none _|refine LeO.ite ?_ ?_|refine LeO.bind ?_ fun _=>?_
theorem Aq.mono : ∀ a0 k, LeO (Aq.f k a0) (Aq.f (k + 1) a0) := by
 intro a0 k
 obtain ⟨ih0, ih1⟩ := Aq.mono_l k
 unfold Aq.f
 repeat' first|(with_reducible first|exact ih0 _ _|exact ih1 _ _ _|exact LeO.refl _|exact LeO.none _|refine LeO.ite ?_ ?_|refine LeO.bind ?_ fun _=>?_)|exact ih0 _ _|exact ih1 _ _ _|exact LeO.none _|refine LeO.ite ?_ ?_|refine LeO.bind ?_ fun _=>?_
theorem Aq.calls (k : Nat) (a0 : ByteArray) (r : Bool) (w : World) (h : Aq.f k a0 = some r) :
  Calls Try.prog 79 #[.string a0] w fun e w' => e = .returned (.bool r) ∧ Below w.heap.size w w' := by
 have HB := Aa.mk (Below.refl w.heap.size w)
 have H : (Aq.l0 k a0 0) = some r := h
 clear h
 have H' := Aa.mk H
 clear H
 go_enter Try.func79, Try.ntmps79
 go_wp2
 go_loopg [3] k (fun kq v3 w' => ∃ (x3_1 : Int), v3 = .int .i64 x3_1 ∧ Aa (Aq.l0 kq a0 x3_1 = some r) ∧ Aa (kq ≤ k) ∧ Aa (Below w.heap.size w w'))
 case atStart => exact ⟨_, (by first | rfl | (simp; done) | (simp [*]; done)), H', ⟨Nat.le_refl _⟩, ⟨by repeat (first | (with_reducible first | exact HB.out | apply Ak | apply Ah | apply Aj) | exact HB.out)⟩⟩
 case round =>(
 clear H'
 obtain ⟨x3_1, rfl, HA, HK1, HB⟩ := hrel
 cases gk with
 | zero => exact absurd HA.out (by simp [Aq.l0])
 | succ k1 =>(
 have H := HA.out
 clear HA
 simp only [Aq.l0] at H
 by_cases c2 : x3_1 < (a0.size : Int)
 ·(
 rw [if_pos c2] at H
 have c2b0 : decide (x3_1 < (a0.size : Int)) = true := decide_eq_true c2
 clear c2
 by_cases c3 : 0 ≤ x3_1
 ·(
 rw [if_pos c3] at H
 have c3b0 : decide (0 ≤ x3_1) = true := decide_eq_true c3
 clear c3
 by_cases c5 : (bt a0 x3_1) ≥ 97
 ·(
 rw [if_pos c5] at H
 have c5b0 : decide (97 ≤ (bt a0 x3_1)) = true := decide_eq_true c5
 clear c5
 by_cases c6 : (bt a0 x3_1) ≥ 48
 ·(
 rw [if_pos c6] at H
 have c6b0 : decide (48 ≤ (bt a0 x3_1)) = true := decide_eq_true c6
 clear c6
 by_cases c7 : (bt a0 x3_1) ≤ 57
 ·(
 rw [if_pos c7] at H
 have c7b0 : decide ((bt a0 x3_1) ≤ 57) = true := decide_eq_true c7
 clear c7
 by_cases c8 : ((bt a0 x3_1) ≤ 122)
 ·(
 rw [if_pos c8] at H
 have c8b0 : decide ((bt a0 x3_1) ≤ 122) = true := decide_eq_true c8
 clear c8
 have H' := Aa.mk H
 clear H
 have p4 : 0 ≤ (x3_1 : Int) := dt_
 have q4 : x3_1 < (a0.size : Int) := dt_
 have hx4 := bt_at a0 x3_1
 replace p4 := eq_true p4
 replace q4 := eq_true q4
 go_wp2
 go_roundg k1
 case measure => have := HK1.out; omega
 case rel => exact ⟨_, (by first | rfl | (simp; done) | (simp [*]; done)), H', ⟨by have := HK1.out; omega⟩, ⟨by repeat (first | (with_reducible first | exact HB.out | apply Ak | apply Ah | apply Aj) | exact HB.out)⟩⟩)
 ·(
 rw [if_neg c8] at H
 have c8b0 : decide ((bt a0 x3_1) ≤ 122) = false := decide_eq_false c8
 clear c8
 by_cases c9 : x3_1 = 0
 ·(
 rw [if_pos c9] at H
 have c9b0 : (x3_1 == 0) = true := Dl c9
 have c9b1 : (x3_1 != 0) = false := Dk c9
 clear c9
 obtain rfl := Dp H
 have p4 : 0 ≤ (x3_1 : Int) := dt_
 have q4 : x3_1 < (a0.size : Int) := dt_
 have hx4 := bt_at a0 x3_1
 replace p4 := eq_true p4
 replace q4 := eq_true q4
 go_wp2
 go_ret
 exact en_ HB)
 ·(
 rw [if_neg c9] at H
 have c9b0 : (x3_1 == 0) = false := Dj c9
 have c9b1 : (x3_1 != 0) = true := Dm c9
 have H' := Aa.mk H
 clear H
 have p4 : 0 ≤ (x3_1 : Int) := dt_
 have q4 : x3_1 < (a0.size : Int) := dt_
 have hx4 := bt_at a0 x3_1
 replace p4 := eq_true p4
 replace q4 := eq_true q4
 go_wp2
 go_roundg k1
 case measure => have := HK1.out; omega
 case rel => exact ⟨_, (by first | rfl | (simp; done) | (simp [*]; done)), H', ⟨by have := HK1.out; omega⟩, ⟨by repeat (first | (with_reducible first | exact HB.out | apply Ak | apply Ah | apply Aj) | exact HB.out)⟩⟩)))
 ·(
 rw [if_neg c7] at H
 have c7b0 : decide ((bt a0 x3_1) ≤ 57) = false := decide_eq_false c7
 clear c7
 by_cases c10 : ((bt a0 x3_1) ≤ 122)
 ·(
 rw [if_pos c10] at H
 have c10b0 : decide ((bt a0 x3_1) ≤ 122) = true := decide_eq_true c10
 clear c10
 have H' := Aa.mk H
 clear H
 have p4 : 0 ≤ (x3_1 : Int) := dt_
 have q4 : x3_1 < (a0.size : Int) := dt_
 have hx4 := bt_at a0 x3_1
 replace p4 := eq_true p4
 replace q4 := eq_true q4
 go_wp2
 go_roundg k1
 case measure => have := HK1.out; omega
 case rel => exact ⟨_, (by first | rfl | (simp; done) | (simp [*]; done)), H', ⟨by have := HK1.out; omega⟩, ⟨by repeat (first | (with_reducible first | exact HB.out | apply Ak | apply Ah | apply Aj) | exact HB.out)⟩⟩)
 ·(
 rw [if_neg c10] at H
 have c10b0 : decide ((bt a0 x3_1) ≤ 122) = false := decide_eq_false c10
 clear c10
 by_cases c11 : x3_1 = 0
 ·(
 rw [if_pos c11] at H
 have c11b0 : (x3_1 == 0) = true := Dl c11
 have c11b1 : (x3_1 != 0) = false := Dk c11
 clear c11
 obtain rfl := Dp H
 have p4 : 0 ≤ (x3_1 : Int) := dt_
 have q4 : x3_1 < (a0.size : Int) := dt_
 have hx4 := bt_at a0 x3_1
 replace p4 := eq_true p4
 replace q4 := eq_true q4
 go_wp2
 go_ret
 exact en_ HB)
 ·(
 rw [if_neg c11] at H
 have c11b0 : (x3_1 == 0) = false := Dj c11
 have c11b1 : (x3_1 != 0) = true := Dm c11
 by_cases c12 : ((bt a0 x3_1) = 95)
 ·(
 rw [if_pos c12] at H
 have c12b0 : ((bt a0 x3_1) == 95) = true := Dl c12
 have c12b1 : ((bt a0 x3_1) != 95) = false := Dk c12
 clear c12
 have H' := Aa.mk H
 clear H
 have p4 : 0 ≤ (x3_1 : Int) := dt_
 have q4 : x3_1 < (a0.size : Int) := dt_
 have hx4 := bt_at a0 x3_1
 replace p4 := eq_true p4
 replace q4 := eq_true q4
 go_wp2
 go_roundg k1
 case measure => have := HK1.out; omega
 case rel => exact ⟨_, (by first | rfl | (simp; done) | (simp [*]; done)), H', ⟨by have := HK1.out; omega⟩, ⟨by repeat (first | (with_reducible first | exact HB.out | apply Ak | apply Ah | apply Aj) | exact HB.out)⟩⟩)
 ·(
 rw [if_neg c12] at H
 have c12b0 : ((bt a0 x3_1) == 95) = false := Dj c12
 have c12b1 : ((bt a0 x3_1) != 95) = true := Dm c12
 obtain rfl := Dp H
 have p4 : 0 ≤ (x3_1 : Int) := dt_
 have q4 : x3_1 < (a0.size : Int) := dt_
 have hx4 := bt_at a0 x3_1
 replace p4 := eq_true p4
 replace q4 := eq_true q4
 go_wp2
 go_ret
 exact en_ HB)))))
 ·(
 rw [if_neg c6] at H
 have c6b0 : decide (48 ≤ (bt a0 x3_1)) = false := decide_eq_false c6
 clear c6
 by_cases c13 : ((bt a0 x3_1) ≤ 122)
 ·(
 rw [if_pos c13] at H
 have c13b0 : decide ((bt a0 x3_1) ≤ 122) = true := decide_eq_true c13
 clear c13
 have H' := Aa.mk H
 clear H
 have p4 : 0 ≤ (x3_1 : Int) := dt_
 have q4 : x3_1 < (a0.size : Int) := dt_
 have hx4 := bt_at a0 x3_1
 replace p4 := eq_true p4
 replace q4 := eq_true q4
 go_wp2
 go_roundg k1
 case measure => have := HK1.out; omega
 case rel => exact ⟨_, (by first | rfl | (simp; done) | (simp [*]; done)), H', ⟨by have := HK1.out; omega⟩, ⟨by repeat (first | (with_reducible first | exact HB.out | apply Ak | apply Ah | apply Aj) | exact HB.out)⟩⟩)
 ·(
 rw [if_neg c13] at H
 have c13b0 : decide ((bt a0 x3_1) ≤ 122) = false := decide_eq_false c13
 clear c13
 by_cases c14 : x3_1 = 0
 ·(
 rw [if_pos c14] at H
 have c14b0 : (x3_1 == 0) = true := Dl c14
 have c14b1 : (x3_1 != 0) = false := Dk c14
 clear c14
 obtain rfl := Dp H
 have p4 : 0 ≤ (x3_1 : Int) := dt_
 have q4 : x3_1 < (a0.size : Int) := dt_
 have hx4 := bt_at a0 x3_1
 replace p4 := eq_true p4
 replace q4 := eq_true q4
 go_wp2
 go_ret
 exact en_ HB)
 ·(
 rw [if_neg c14] at H
 have c14b0 : (x3_1 == 0) = false := Dj c14
 have c14b1 : (x3_1 != 0) = true := Dm c14
 by_cases c15 : ((bt a0 x3_1) = 95)
 ·(
 rw [if_pos c15] at H
 have c15b0 : ((bt a0 x3_1) == 95) = true := Dl c15
 have c15b1 : ((bt a0 x3_1) != 95) = false := Dk c15
 clear c15
 have H' := Aa.mk H
 clear H
 have p4 : 0 ≤ (x3_1 : Int) := dt_
 have q4 : x3_1 < (a0.size : Int) := dt_
 have hx4 := bt_at a0 x3_1
 replace p4 := eq_true p4
 replace q4 := eq_true q4
 go_wp2
 go_roundg k1
 case measure => have := HK1.out; omega
 case rel => exact ⟨_, (by first | rfl | (simp; done) | (simp [*]; done)), H', ⟨by have := HK1.out; omega⟩, ⟨by repeat (first | (with_reducible first | exact HB.out | apply Ak | apply Ah | apply Aj) | exact HB.out)⟩⟩)
 ·(
 rw [if_neg c15] at H
 have c15b0 : ((bt a0 x3_1) == 95) = false := Dj c15
 have c15b1 : ((bt a0 x3_1) != 95) = true := Dm c15
 obtain rfl := Dp H
 have p4 : 0 ≤ (x3_1 : Int) := dt_
 have q4 : x3_1 < (a0.size : Int) := dt_
 have hx4 := bt_at a0 x3_1
 replace p4 := eq_true p4
 replace q4 := eq_true q4
 go_wp2
 go_ret
 exact en_ HB)))))
 ·(
 rw [if_neg c5] at H
 have c5b0 : decide (97 ≤ (bt a0 x3_1)) = false := decide_eq_false c5
 clear c5
 by_cases c16 : (bt a0 x3_1) ≥ 48
 ·(
 rw [if_pos c16] at H
 have c16b0 : decide (48 ≤ (bt a0 x3_1)) = true := decide_eq_true c16
 clear c16
 by_cases c17 : (bt a0 x3_1) ≤ 57
 ·(
 rw [if_pos c17] at H
 have c17b0 : decide ((bt a0 x3_1) ≤ 57) = true := decide_eq_true c17
 clear c17
 by_cases c18 : x3_1 = 0
 ·(
 rw [if_pos c18] at H
 have c18b0 : (x3_1 == 0) = true := Dl c18
 have c18b1 : (x3_1 != 0) = false := Dk c18
 clear c18
 obtain rfl := Dp H
 have p4 : 0 ≤ (x3_1 : Int) := dt_
 have q4 : x3_1 < (a0.size : Int) := dt_
 have hx4 := bt_at a0 x3_1
 replace p4 := eq_true p4
 replace q4 := eq_true q4
 go_wp2
 go_ret
 exact en_ HB)
 ·(
 rw [if_neg c18] at H
 have c18b0 : (x3_1 == 0) = false := Dj c18
 have c18b1 : (x3_1 != 0) = true := Dm c18
 have H' := Aa.mk H
 clear H
 have p4 : 0 ≤ (x3_1 : Int) := dt_
 have q4 : x3_1 < (a0.size : Int) := dt_
 have hx4 := bt_at a0 x3_1
 replace p4 := eq_true p4
 replace q4 := eq_true q4
 go_wp2
 go_roundg k1
 case measure => have := HK1.out; omega
 case rel => exact ⟨_, (by first | rfl | (simp; done) | (simp [*]; done)), H', ⟨by have := HK1.out; omega⟩, ⟨by repeat (first | (with_reducible first | exact HB.out | apply Ak | apply Ah | apply Aj) | exact HB.out)⟩⟩))
 ·(
 rw [if_neg c17] at H
 have c17b0 : decide ((bt a0 x3_1) ≤ 57) = false := decide_eq_false c17
 clear c17
 by_cases c19 : x3_1 = 0
 ·(
 rw [if_pos c19] at H
 have c19b0 : (x3_1 == 0) = true := Dl c19
 have c19b1 : (x3_1 != 0) = false := Dk c19
 clear c19
 obtain rfl := Dp H
 have p4 : 0 ≤ (x3_1 : Int) := dt_
 have q4 : x3_1 < (a0.size : Int) := dt_
 have hx4 := bt_at a0 x3_1
 replace p4 := eq_true p4
 replace q4 := eq_true q4
 go_wp2
 go_ret
 exact en_ HB)
 ·(
 rw [if_neg c19] at H
 have c19b0 : (x3_1 == 0) = false := Dj c19
 have c19b1 : (x3_1 != 0) = true := Dm c19
 by_cases c20 : ((bt a0 x3_1) = 95)
 ·(
 rw [if_pos c20] at H
 have c20b0 : ((bt a0 x3_1) == 95) = true := Dl c20
 have c20b1 : ((bt a0 x3_1) != 95) = false := Dk c20
 clear c20
 have H' := Aa.mk H
 clear H
 have p4 : 0 ≤ (x3_1 : Int) := dt_
 have q4 : x3_1 < (a0.size : Int) := dt_
 have hx4 := bt_at a0 x3_1
 replace p4 := eq_true p4
 replace q4 := eq_true q4
 go_wp2
 go_roundg k1
 case measure => have := HK1.out; omega
 case rel => exact ⟨_, (by first | rfl | (simp; done) | (simp [*]; done)), H', ⟨by have := HK1.out; omega⟩, ⟨by repeat (first | (with_reducible first | exact HB.out | apply Ak | apply Ah | apply Aj) | exact HB.out)⟩⟩)
 ·(
 rw [if_neg c20] at H
 have c20b0 : ((bt a0 x3_1) == 95) = false := Dj c20
 have c20b1 : ((bt a0 x3_1) != 95) = true := Dm c20
 obtain rfl := Dp H
 have p4 : 0 ≤ (x3_1 : Int) := dt_
 have q4 : x3_1 < (a0.size : Int) := dt_
 have hx4 := bt_at a0 x3_1
 replace p4 := eq_true p4
 replace q4 := eq_true q4
 go_wp2
 go_ret
 exact en_ HB))))
 ·(
 rw [if_neg c16] at H
 have c16b0 : decide (48 ≤ (bt a0 x3_1)) = false := decide_eq_false c16
 clear c16
 by_cases c21 : x3_1 = 0
 ·(
 rw [if_pos c21] at H
 have c21b0 : (x3_1 == 0) = true := Dl c21
 have c21b1 : (x3_1 != 0) = false := Dk c21
 clear c21
 obtain rfl := Dp H
 have p4 : 0 ≤ (x3_1 : Int) := dt_
 have q4 : x3_1 < (a0.size : Int) := dt_
 have hx4 := bt_at a0 x3_1
 replace p4 := eq_true p4
 replace q4 := eq_true q4
 go_wp2
 go_ret
 exact en_ HB)
 ·(
 rw [if_neg c21] at H
 have c21b0 : (x3_1 == 0) = false := Dj c21
 have c21b1 : (x3_1 != 0) = true := Dm c21
 by_cases c22 : ((bt a0 x3_1) = 95)
 ·(
 rw [if_pos c22] at H
 have c22b0 : ((bt a0 x3_1) == 95) = true := Dl c22
 have c22b1 : ((bt a0 x3_1) != 95) = false := Dk c22
 clear c22
 have H' := Aa.mk H
 clear H
 have p4 : 0 ≤ (x3_1 : Int) := dt_
 have q4 : x3_1 < (a0.size : Int) := dt_
 have hx4 := bt_at a0 x3_1
 replace p4 := eq_true p4
 replace q4 := eq_true q4
 go_wp2
 go_roundg k1
 case measure => have := HK1.out; omega
 case rel => exact ⟨_, (by first | rfl | (simp; done) | (simp [*]; done)), H', ⟨by have := HK1.out; omega⟩, ⟨by repeat (first | (with_reducible first | exact HB.out | apply Ak | apply Ah | apply Aj) | exact HB.out)⟩⟩)
 ·(
 rw [if_neg c22] at H
 have c22b0 : ((bt a0 x3_1) == 95) = false := Dj c22
 have c22b1 : ((bt a0 x3_1) != 95) = true := Dm c22
 obtain rfl := Dp H
 have p4 : 0 ≤ (x3_1 : Int) := dt_
 have q4 : x3_1 < (a0.size : Int) := dt_
 have hx4 := bt_at a0 x3_1
 replace p4 := eq_true p4
 replace q4 := eq_true q4
 go_wp2
 go_ret
 exact en_ HB)))))
 ·(
 rw [if_neg c3] at H
 exact absurd H (by simp)))
 ·(
 rw [if_neg c2] at H
 have c2b0 : decide (x3_1 < (a0.size : Int)) = false := decide_eq_false c2
 clear c2
 replace H := Dn H
 obtain ⟨t259, A230, H⟩ := H
 replace H : (Aq.l1 k1 a0 t259 0) = some r := H
 have A23 := Aa.mk A230
 clear A230
 have H' := Aa.mk H
 clear H
 go_wp2_with (first | ((with_reducible refine Aw (f := 99) rfl ?_); refine gl_ (some 44) rfl Try.func99 #[] ?_; (with_reducible refine (Cs.calls  t259 _ A23.out).mono ?_); rintro e w24 ⟨v260, rfl, ho0, hb⟩; refine ⟨_, rfl, ?_⟩; have HO261 := Aa.mk (Kd.R_lower ho0 (Ca (by repeat (first | (with_reducible first | exact HB.out | apply Ak | apply Ah | apply Aj) | exact HB.out)))); replace HB := bs_ HB hb; (try clear hb); (try clear ho0)))
 go_loopg [8] k1 (fun kq v8 w' => ∃ (x8_2 : Int), v8 = .int .i64 x8_2 ∧ Aa (Aq.l1 kq a0 t259 x8_2 = some r) ∧ Aa (kq ≤ k1) ∧ Aa (Kd.R Kd.string 9 w' w.heap.size (fun _ => True) v260 t259) ∧ Aa (Below w.heap.size w w'))
 case atStart => exact ⟨_, (by first | rfl | (simp; done) | (simp [*]; done)), H', ⟨Nat.le_refl _⟩, ⟨by (with_reducible repeat (first | apply Kd.R_alloc | apply Kd.R_drewN | apply Kd.R_drew)); exact HO261.out⟩, ⟨by repeat (first | (with_reducible first | exact HB.out | apply Ak | apply Ah | apply Aj) | exact HB.out)⟩⟩
 case round =>(
 clear H'
 try clear c2
 try clear c2b0
 try clear c3
 try clear c3b0
 try clear p4
 try clear q4
 try clear hx4
 try clear c5
 try clear c5b0
 try clear c6
 try clear c6b0
 try clear c7
 try clear c7b0
 try clear c8
 try clear c8b0
 try clear c9
 try clear c9b0
 try clear c9b1
 try clear c10
 try clear c10b0
 try clear c11
 try clear c11b0
 try clear c11b1
 try clear c12
 try clear c12b0
 try clear c12b1
 try clear c13
 try clear c13b0
 try clear c14
 try clear c14b0
 try clear c14b1
 try clear c15
 try clear c15b0
 try clear c15b1
 try clear c16
 try clear c16b0
 try clear c17
 try clear c17b0
 try clear c18
 try clear c18b0
 try clear c18b1
 try clear c19
 try clear c19b0
 try clear c19b1
 try clear c20
 try clear c20b0
 try clear c20b1
 try clear c21
 try clear c21b0
 try clear c21b1
 try clear c22
 try clear c22b0
 try clear c22b1
 obtain ⟨x8_2, rfl, HA, HK2, HO_7, HB⟩ := hrel
 cases gk with
 | zero => exact absurd HA.out (by simp [Aq.l1])
 | succ k2 =>(
 have H := HA.out
 clear HA
 simp only [Aq.l1] at H
 by_cases c25 : x8_2 < (t259.length : Int)
 ·(
 rw [if_pos c25] at H
 have c25b0 : decide (x8_2 < (t259.length : Int)) = true := decide_eq_true c25
 clear c25
 by_cases c26 : 0 ≤ x8_2
 ·(
 rw [if_pos c26] at H
 have c26b0 : decide (0 ≤ x8_2) = true := decide_eq_true c26
 clear c26
 by_cases c27 : (rdOf ByteArray.empty t259 x8_2).toList = a0.toList
 ·(
 rw [if_pos c27] at H
 have c27b0 : ((rdOf ByteArray.empty t259 x8_2).toList == a0.toList) = true := Dl c27
 have c27b1 : ((rdOf ByteArray.empty t259 x8_2).toList != a0.toList) = false := Dk c27
 clear c27
 obtain rfl := Dp H
 obtain ⟨Ao28, co28, eo28⟩ := Kd.R_slice HO_7.out
 subst eo28
 have p262 : 0 ≤ (x8_2 : Int) := dt_
 have q262 : x8_2 < (t259.length : Int) := dt_
 obtain ⟨ad262, e262, hx262_0⟩ := Kd.at_string (Kd.R_reads' HO_7.out).2.2 x8_2 p262 q262
 cases e262
 replace p262 := eq_true p262
 replace q262 := eq_true q262
 go_wp2
 go_ret
 exact en_ HB)
 ·(
 rw [if_neg c27] at H
 have c27b0 : ((rdOf ByteArray.empty t259 x8_2).toList == a0.toList) = false := Dj c27
 have c27b1 : ((rdOf ByteArray.empty t259 x8_2).toList != a0.toList) = true := Dm c27
 have H' := Aa.mk H
 clear H
 obtain ⟨Ao29, co29, eo29⟩ := Kd.R_slice HO_7.out
 subst eo29
 have p262 : 0 ≤ (x8_2 : Int) := dt_
 have q262 : x8_2 < (t259.length : Int) := dt_
 obtain ⟨ad262, e262, hx262_0⟩ := Kd.at_string (Kd.R_reads' HO_7.out).2.2 x8_2 p262 q262
 cases e262
 replace p262 := eq_true p262
 replace q262 := eq_true q262
 go_wp2
 go_roundg k2
 case measure => have := HK1.out; have := HK2.out; omega
 case rel => exact ⟨_, (by first | rfl | (simp; done) | (simp [*]; done)), H', ⟨by have := HK1.out; have := HK2.out; omega⟩, ⟨by (with_reducible repeat (first | apply Kd.R_alloc | apply Kd.R_drewN | apply Kd.R_drew)); exact HO_7.out⟩, ⟨by repeat (first | (with_reducible first | exact HB.out | apply Ak | apply Ah | apply Aj) | exact HB.out)⟩⟩))
 ·(
 rw [if_neg c26] at H
 exact absurd H (by simp)))
 ·(
 rw [if_neg c25] at H
 have c25b0 : decide (x8_2 < (t259.length : Int)) = false := decide_eq_false c25
 clear c25
 by_cases c30 : (a0.size : Int) ≥ 1
 ·(
 rw [if_pos c30] at H
 have c30b0 : decide (1 ≤ (a0.size : Int)) = true := decide_eq_true c30
 have c30b1 : decide (1 ≤ a0.size) = true := decide_eq_true (by omega)
 clear c30
 obtain rfl := Dp H
 obtain ⟨Ao31, co31, eo31⟩ := Kd.R_slice HO_7.out
 subst eo31
 go_wp2
 go_ret
 exact en_ HB)
 ·(
 rw [if_neg c30] at H
 have c30b0 : decide (1 ≤ (a0.size : Int)) = false := decide_eq_false c30
 have c30b1 : decide (1 ≤ a0.size) = false := decide_eq_false (by omega)
 clear c30
 obtain rfl := Dp H
 obtain ⟨Ao32, co32, eo32⟩ := Kd.R_slice HO_7.out
 subst eo32
 go_wp2
 go_ret
 exact en_ HB)))))))
theorem TotP.weak {α : Type} {P Q : α → Prop} {g : Nat → Option α} (h : TotP P g) (k : ∀ r, P r → Q r) : TotP Q g := by
 obtain ⟨r, h1, h2⟩ := h
 exact ⟨r, h1, k r h2⟩
theorem TotP.const {α : Type} {P : α → Prop} {o : Option α} {r : α} (h : o = some r) (hp : P r) : TotP P (fun _ => o) := ⟨r, Ev.const h, hp⟩
theorem word_step (a b : List UInt8) (X : Option Bool) : (if a = b then some true else X).getD false = (decide (b = a) || X.getD false) := by
 by_cases h : a = b
 ·subst h; simp
 ·(
 have h' : ¬ b = a := fun e => h e.symm
 simp [h, h'])
theorem words_any (s : ByteArray) (ws : List ByteArray) (h : Cs.f = some ws) : ws.length ≤ 100 ∧ (ws.any fun y => decide (y.toList = s.toList)) = wordB s := by
 simp only [Cs.f, Option.some.injEq] at h
 subst h
 refine ⟨by decide, ?_⟩
 unfold wordB Cz.f
 simp only [word_step, List.any_cons, List.any_nil, Option.getD_some]
 simp only [show ∀ a : Array UInt8, (⟨a⟩ : ByteArray).toList = a.toList from fun a => by rw [ByteArray.toList_eq]]
theorem name12_words (s : ByteArray) (ws : List ByteArray) (hl : ws.length ≤ 100) : ∀ (n i : Nat), i + n = ws.length →
    TotP (fun r => r = (!((ws.drop i).any fun y => decide (y.toList = s.toList)) && (decide (1 ≤ s.size) && decide (s.size ≤ 12)))) (fun k => Aq.l1 k s ws (i : Int)) := by
 intro n
 induction n with
 | zero =>(
 intro i hi
 refine TotP.succ (fun k => by simp only [Aq.l1]; rfl) ?_
 refine TotP.ite (fun h => absurd h (by omega)) (fun _ => ?_)
 have e : ws.drop i = [] := List.drop_eq_nil_of_le (by omega)
 rw [e]
 refine TotP.ite (fun h => TotP.some_ ?_) (fun h => TotP.some_ ?_)
 ·(
 have h1 : 1 ≤ s.size := by omega
 by_cases h2 : s.size ≤ 12
 ·(
 have h3 : (s.size : Int) ≤ 12 := by omega
 simp [h1, h2, h3])
 ·(
 have h3 : ¬ (s.size : Int) ≤ 12 := by omega
 simp [h1, h2, h3]))
 ·(
 have h1 : ¬ 1 ≤ s.size := by omega
 simp [h1]))
 | succ n ih =>(
 intro i hi
 have hlt : i < ws.length := by omega
 have hr : rdOf ByteArray.empty ws (i : Int) = ws[i] := by simp [rdOf, List.getD_eq_getElem?_getD, List.getElem?_eq_getElem hlt]
 have hd : ws.drop i = ws[i] :: ws.drop (i + 1) := by rw [List.drop_eq_getElem_cons hlt]
 refine TotP.succ (fun k => by simp only [Aq.l1]; rfl) ?_
 refine TotP.ite (fun _ => ?_) (fun h => absurd (by omega) h)
 refine TotP.ite (fun _ => ?_) (fun h => absurd (by omega) h)
 rw [hr, hd]
 have ha : ∀ f : ByteArray → Bool, (ws[i] :: ws.drop (i + 1)).any f = (f ws[i] || (ws.drop (i + 1)).any f) := fun f => rfl
 rw [ha]
 refine TotP.ite (fun h => TotP.some_ (by rw [decide_eq_true h]; rfl)) (fun h => ?_)
 rw [wrap_in (by omega) (by omega), show (i : Int) + 1 = ((i + 1 : Nat) : Int) by omega]
 exact (ih (i + 1) (by omega)).weak (fun r hr => by rw [hr, decide_eq_false h]; rfl))
theorem name12 (s : ByteArray) (hs : s.size ≤ 9223372036854775806) : TotP (fun r => r = nameB s) (fun k => Aq.f k s) := by
  have fin : TotP (fun r => r = (!wordB s && (decide (1 ≤ s.size) && decide (s.size ≤ 12)))) (fun k => (Cs.f).bind fun t => Aq.l1 k s t 0) := by
    obtain ⟨ws, hw⟩ : ∃ ws, Cs.f = some ws := ⟨_, rfl⟩
    obtain ⟨h1, h2⟩ := words_any s ws hw
    refine TotP.bind (TotP.const hw (P := fun x => x = ws) rfl) (fun x hx => ?_)
    subst hx
    have := name12_words s x h1 x.length 0 (by omega)
    refine (by simpa using this : TotP _ _).weak (fun r hr => ?_)
    rw [hr, ← h2]
  have key : ∀ (n i : Nat), i + n = s.size → TotP (fun r => r = (nameOk (decide (i = 0)) (s.data.toList.drop i) && (!wordB s && (decide (1 ≤ s.size) && decide (s.size ≤ 12))))) (fun k => Aq.l0 k s (i : Int)) := by
    intro n
    induction n with
    | zero =>
      intro i hi
      refine TotP.succ (fun k => by simp only [Aq.l0]; rfl) ?_
      refine TotP.ite (fun h => absurd h (by omega)) (fun _ => ?_)
      have e : s.data.toList.drop i = [] := List.drop_eq_nil_of_le (by have : s.data.toList.length = s.size := rfl; omega)
      rw [e]
      exact fin.weak (fun r hr => by rw [hr]; simp [nameOk])
    | succ n ih =>
      intro i hi
      have hlt : i < s.size := by omega
      have hd := drop_byte s i hlt
      have hbt : bt s (i : Int) = ((s[i]).toNat : Int) := by simp [bt, hlt]
      have go1 : okB (decide (i = 0)) s[i] = true → TotP (fun r => r = (nameOk (decide (i = 0)) (s.data.toList.drop i) && (!wordB s && (decide (1 ≤ s.size) && decide (s.size ≤ 12))))) (fun k => Aq.l0 k s (wrap64 ((i : Int) + 1))) := by
        intro h
        rw [wrap_in (by omega) (by omega), show (i : Int) + 1 = ((i + 1 : Nat) : Int) by omega, hd]
        exact (ih (i + 1) (by omega)).weak (fun r hr => by rw [hr]; simp [nameOk, h])
      have fls : okB (decide (i = 0)) s[i] = false → TotP (fun r => r = (nameOk (decide (i = 0)) (s.data.toList.drop i) && (!wordB s && (decide (1 ≤ s.size) && decide (s.size ≤ 12))))) (fun _ => some false) := by
        intro h
        rw [hd]
        exact TotP.some_ (by simp [nameOk, h])
      refine TotP.succ (fun k => by simp only [Aq.l0]; rfl) ?_
      rw [hbt]
      generalize s[i] = b at go1 fls
      have ok1 : 97 ≤ b.toNat → b.toNat ≤ 122 → okB (decide (i = 0)) b = true := fun h1 h2 => by simp [okB, h1, h2]
      have ok2 : i ≠ 0 → 48 ≤ b.toNat → b.toNat ≤ 57 → okB (decide (i = 0)) b = true := fun h0 h1 h2 => by simp [okB, h0, h1, h2]
      have ok3 : i ≠ 0 → b.toNat = 95 → okB (decide (i = 0)) b = true := fun h0 h1 => by simp [okB, h0, h1]
      have no1 : i = 0 → ¬ (97 ≤ b.toNat ∧ b.toNat ≤ 122) → okB (decide (i = 0)) b = false := fun h0 h1 => by
        have : (decide (97 ≤ b.toNat) && decide (b.toNat ≤ 122)) = false := by rw [← Bool.decide_and]; exact decide_eq_false h1
        simp [okB, h0, this]
      have no2 : ¬ (97 ≤ b.toNat ∧ b.toNat ≤ 122) → ¬ (48 ≤ b.toNat ∧ b.toNat ≤ 57) → ¬ b.toNat = 95 → okB (decide (i = 0)) b = false := fun h1 h2 h3 => by
        have e1 : (decide (97 ≤ b.toNat) && decide (b.toNat ≤ 122)) = false := by rw [← Bool.decide_and]; exact decide_eq_false h1
        have e2 : (decide (48 ≤ b.toNat) && decide (b.toNat ≤ 57)) = false := by rw [← Bool.decide_and]; exact decide_eq_false h2
        simp [okB, e1, e2, h3]
      refine TotP.ite (fun _ => ?_) (fun h => absurd (by omega) h)
      refine TotP.ite (fun _ => ?_) (fun h => absurd (by omega) h)
      repeat' (first
        | refine TotP.ite (fun _ => ?_) (fun _ => ?_)
        | exact go1 (ok1 (by omega) (by omega))
        | exact go1 (ok2 (by omega) (by omega) (by omega))
        | exact go1 (ok3 (by omega) (by omega))
        | exact fls (no1 (by omega) (by omega))
        | exact fls (no2 (by omega) (by omega) (by omega)))
  have := key s.size 0 (by omega)
  unfold Aq.f
  refine (by simpa using this : TotP _ _).weak (fun r hr => ?_)
  rw [hr]
  unfold nameB
  have e : decide (s.size ≠ 0) = decide (1 ≤ s.size) := by
    by_cases h0 : s.size = 0
    · rw [decide_eq_false (by omega), decide_eq_false (by omega)]
    · rw [decide_eq_true h0, decide_eq_true (by omega)]
  rw [e]
  cases decide (1 ≤ s.size) <;> cases decide (s.size ≤ 12) <;> cases wordB s <;> cases nameOk true s.data.toList <;> rfl
def Fine : Nat → S27 → Prop
  | 0, _ => True
  | d + 1, x => (x.f6.length ≤ 20 ∧ x.f1.size ≤ 100 ∧ x.f5.size ≤ 100 ∧ x.f3.f2.size ≤ 100) ∧ ∀ y, y ∈ x.f6 → Fine d y
theorem Fine.lens : ∀ (d : Nat) (x : S27), Fine d x → Lens d x
  | 0, _, _ => trivial
  | d + 1, x, h => ⟨by have := h.1.1; omega, fun y hy => Fine.lens d y (h.2 y hy)⟩
theorem Fine.le : ∀ (d e : Nat) (x : S27), d ≤ e → Fine e x → Fine d x
  | 0, _, _, _, _ => trivial
  | d + 1, 0, _, h, _ => by omega
  | d + 1, e + 1, x, h, hl => ⟨hl.1, fun y hy => Fine.le d e y (by omega) (hl.2 y hy)⟩
theorem smallF : ∀ (m : Nat) (x : S27), m ≤ 1000 → TotP (fun r => r = true → Fine m x) (fun k => At.f k x.f0 x.f1 x.f2 x.f3.f0 x.f3.f1 x.f3.f2 x.f4 x.f5 x.f6 (m : Int)) := by
 intro m
 induction m with
 | zero =>(
 intro x _
 refine TotP.succ (fun k => by simp only [At.f]; rfl) ?_
 refine TotP.ite (fun _ => ?_) (fun h => absurd (by omega) h)
 refine TotP.succ (fun k => by simp only [At.j0]; rfl) ?_
 exact TotP.ite (fun _ => TotP.some_ (by simp)) (fun h => absurd trivial h))
 | succ m ih =>(
 intro x hm
 have hj : ∀ b, (b = false → x.f6.length ≤ 20 ∧ x.f1.size ≤ 100 ∧ x.f5.size ≤ 100 ∧ x.f3.f2.size ≤ 100) → TotP (fun r => r = true → Fine (m + 1) x) (fun k => At.j0 k ((m + 1 : Nat) : Int) b x.f0 x.f1 x.f2 x.f3.f0 x.f3.f1 x.f3.f2 x.f4 x.f5 x.f6) := by(
 intro b hb
 refine TotP.succ (fun k => by simp only [At.j0]; rfl) ?_
 refine TotP.ite (fun _ => TotP.some_ (by simp)) (fun hb' => ?_)
 have hlen := hb (by simpa using hb')
 have key : ∀ (n i : Nat), i + n = x.f6.length → (∀ j, j < i → ∀ y, x.f6[j]? = some y → Fine m y) → TotP (fun r => r = true → Fine (m + 1) x) (fun k => At.l0 k ((m + 1 : Nat) : Int) (i : Int) x.f0 x.f1 x.f2 x.f3.f0 x.f3.f1 x.f3.f2 x.f4 x.f5 x.f6) := by(
 intro n
 induction n with
 | zero =>(
 intro i hi hall
 refine TotP.succ (fun k => by simp only [At.l0]; rfl) ?_
 refine TotP.ite (fun h => absurd h (by omega)) (fun _ => TotP.some_ (fun _ => ⟨hlen, fun y hy => ?_⟩))
 obtain ⟨j, hj⟩ := List.mem_iff_getElem?.1 hy
 exact hall j (by have := (List.getElem?_eq_some_iff.1 hj).1; omega) y hj)
 | succ n ih2 =>(
 intro i hi hall
 refine TotP.succ (fun k => by simp only [At.l0]; rfl) ?_
 refine TotP.ite (fun _ => ?_) (fun h => absurd (by omega) h)
 refine TotP.ite (fun _ => ?_) (fun h => absurd (by omega) h)
 have hw : wrap64 (((m + 1 : Nat) : Int) - 1) = (m : Int) := by rw [wrap_in (by omega) (by omega)]; omega
 rw [hw]
 refine TotP.bind (ih (Al x.f6 (i : Int)) (by omega)) (fun t ht => ?_)
 refine TotP.ite (fun hT => ?_) (fun _ => TotP.some_ (by simp))
 rw [wrap_in (by omega) (by omega), show (i : Int) + 1 = ((i + 1 : Nat) : Int) by omega]
 refine ih2 (i + 1) (by omega) (fun j hj y hy => ?_)
 by_cases e : j = i
 ·(
 subst e
 have hr : Al x.f6 (j : Int) = y := by simp [Al, List.getD_eq_getElem?_getD, hy]
 rw [hr] at ht
 exact ht hT)
 ·exact hall j (by omega) y hy))
 have := key x.f6.length 0 (by omega) (fun j hj => absurd hj (Nat.not_lt_zero _))
 simpa using this)
 refine TotP.succ (fun k => by simp only [At.f]; rfl) ?_
 refine TotP.ite (fun h => absurd h (by omega)) (fun _ => ?_)
 refine TotP.ite (fun _ => hj true (by simp)) (fun h20 => ?_)
 refine TotP.ite (fun _ => hj true (by simp)) (fun h1 => ?_)
 refine TotP.ite (fun _ => hj true (by simp)) (fun h2 => ?_)
 exact hj _ (fun h3 => ⟨by omega, by omega, by omega, by have := of_decide_eq_false h3; omega⟩))
def Bk.j0 : Nat → Int → Bool → Bool → Bool → Int → ByteArray → Option (Bool)
 | 0, _, _, _, _, _, _ => none
 | k + 1, x0, x1, x12, x256000, x256001, x256002 => if x12 = true then (some false) else (if x256000 = true then (if x1 = true then (if x256001 = 0 then (some (x256002.toList == ([] : List UInt8))) else (some false)) else (some false)) else (if x0 = 3 then (if x256001 = 0 then (some (decide ((x256002.size : Int) ≤ 40))) else (some false)) else (if x256002.toList = ([] : List UInt8) then (if x0 = 1 then (some true) else (if x256001 = 0 then (some true) else (some (x256001 == 1)))) else (some false))))
def Bk.f (k : Nat) (a0 : Int) (a1 : Bool) (a2_0 : Bool) (a2_1 : Int) (a2_2 : ByteArray) : Option (Bool) := if a0 < 1 then (Bk.j0 k a0 a1 true a2_0 a2_1 a2_2) else (Bk.j0 k a0 a1 (decide (a0 > 3)) a2_0 a2_1 a2_2)
theorem Bk.mono_l : ∀ k, (∀ y0 y1 y2 y3 y4 y5, LeO (Bk.j0 k y0 y1 y2 y3 y4 y5) (Bk.j0 (k + 1) y0 y1 y2 y3 y4 y5))
 | 0 => fun _ _ _ _ _ _ r h => by simp [Bk.j0] at h
 | k + 1 => by
  have ih0 := Bk.mono_l k
  ·intro y0 y1 y2 y3 y4 y5
   unfold Bk.j0
   repeat' first|(with_reducible first|exact ih0 _ _ _ _ _ _|exact LeO.refl _|exact LeO.none _|refine LeO.ite ?_ ?_|refine LeO.bind ?_ fun _=>?_)|exact ih0 _ _ _ _ _ _|exact LeO.none _|refine LeO.ite ?_ ?_|refine LeO.bind ?_ fun _=>?_
theorem Bk.mono : ∀ a0 a1 a2 a3 a4 k, LeO (Bk.f k a0 a1 a2 a3 a4) (Bk.f (k + 1) a0 a1 a2 a3 a4) := by
 intro a0 a1 a2 a3 a4 k
 have ih0 := Bk.mono_l k
 unfold Bk.f
 repeat' first|(with_reducible first|exact ih0 _ _ _ _ _ _|exact LeO.refl _|exact LeO.none _|refine LeO.ite ?_ ?_|refine LeO.bind ?_ fun _=>?_)|exact ih0 _ _ _ _ _ _|exact LeO.none _|refine LeO.ite ?_ ?_|refine LeO.bind ?_ fun _=>?_
theorem Bk.calls (k : Nat) (a0 : Int) (a1 : Bool) (a2_0 : Bool) (a2_1 : Int) (a2_2 : ByteArray) (r : Bool) (w : World) (h : Bk.f k a0 a1 a2_0 a2_1 a2_2 = some r) :
  Calls Try.prog 57 #[.int .i64 a0, .bool a1, .agg #[.bool a2_0, .int .i64 a2_1, .string a2_2]] w fun e w' => e = .returned (.bool r) ∧ Below w.heap.size w w' := by
 have hu24 := Try.underlying24
 have HB := Aa.mk (Below.refl w.heap.size w)
 have H : (if a0 < 1 then (Bk.j0 k a0 a1 true a2_0 a2_1 a2_2) else (Bk.j0 k a0 a1 (decide (a0 > 3)) a2_0 a2_1 a2_2)) = some r := h
 clear h
 have HC4 := Aa.mk H
 clear H
 go_enter Try.func57, Try.ntmps57
 go_upto_region 1 with (first | ((with_reducible refine Cv (N := 5) rfl ?_); (try (refine Cy (by rfl) ?_; dsimp only)); refine bx_ (N := 5) (cs := #[.bool a2_0, .int .i64 a2_1, .string a2_2]) (t := 24) ?_; intro gb255 hg w5 hbox hb; have BK255 := Aa.mk (hbox); have GW255 := ge_ HB hg; have GE255 := ge_ HB hg; replace HB := bs_ HB hb; clear hb hbox hg))
 (try simp only [Act.put, List.setIfInBounds_toArray, List.set_cons_zero, List.set_cons_succ])
 go_cut [12] (fun v12 wc => ∃ (kq : Nat) (x12_3 : Bool), v12 = .bool x12_3 ∧ Aa (Bk.j0 kq a0 a1 x12_3 a2_0 a2_1 a2_2 = some r) ∧ Aa (kq ≤ k) ∧ Aa (wc.heap[gb255]? = some (.cells #[.bool a2_0, .int .i64 a2_1, .string a2_2] 24 (0, 0))) ∧ Aa (Below w.heap.size w wc))
 case first =>(
 have H := HC4.out
 clear HC4
 by_cases c6 : a0 < 1
 rotate_left
 focus(
 rw [if_neg c6] at H
 have c6b0 : decide (a0 < 1) = false := decide_eq_false c6)
 rotate_right
 focus(
 rw [if_pos c6] at H
 have c6b0 : decide (a0 < 1) = true := decide_eq_true c6)
 all_goals(
 clear c6
 (first | rw [c6b0] | (simp only [i64_w, i32_w]; rw [c6b0]) | skip)
 have H' := Aa.mk H
 clear H
 go_wp2
 go_meet
 case rel => exact ⟨_, _, (by first | rfl | (simp; done) | (simp [*]; done)), H', ⟨by first | omega | exact Nat.le_refl _⟩, ⟨by (with_reducible repeat (first | refine Ag ?_ _ | refine Af ?_ | refine Ae ?_ _)); exact BK255.out⟩, ⟨by repeat (first | (with_reducible first | exact HB.out | apply Ak | apply Ah | apply Aj | refine Ao ?_ GE255.out) | exact HB.out)⟩⟩))
 case rest =>(
 clear HC4
 try clear c6
 try clear c6b0
 obtain ⟨kq, x12_3, rfl, HA, HJ3, BK255, HB⟩ := hcut
 cases kq with
 | zero => exact absurd HA.out (by simp [Bk.j0])
 | succ kj3 =>(
 have H := HA.out
 clear HA
 simp only [Bk.j0] at H
 by_cases c7 : x12_3 = true
 ·(
 subst c7
 have H1 : (some false) = some r := by rw [if_pos rfl] at H; exact H
 clear H
 have H := H1
 clear H1
 obtain rfl := Dp H
 go_wp2
 go_ret
 exact en_ HB)
 ·(
 replace c7 := Dq c7
 subst c7
 have H1 : (if a2_0 = true then (if a1 = true then (if a2_1 = 0 then (some (a2_2.toList == ([] : List UInt8))) else (some false)) else (some false)) else (if a0 = 3 then (if a2_1 = 0 then (some (decide ((a2_2.size : Int) ≤ 40))) else (some false)) else (if a2_2.toList = ([] : List UInt8) then (if a0 = 1 then (some true) else (if a2_1 = 0 then (some true) else (some (a2_1 == 1)))) else (some false)))) = some r := by rw [if_neg (show ¬ (false = true) by decide)] at H; exact H
 clear H
 have H := H1
 clear H1
 by_cases c8 : a2_0 = true
 rotate_left
 focus(
 replace c8 := Dq c8
 subst c8
 have H1 : (if a0 = 3 then (if a2_1 = 0 then (some (decide ((a2_2.size : Int) ≤ 40))) else (some false)) else (if a2_2.toList = ([] : List UInt8) then (if a0 = 1 then (some true) else (if a2_1 = 0 then (some true) else (some (a2_1 == 1)))) else (some false))) = some r := by rw [if_neg (show ¬ (false = true) by decide)] at H; exact H
 clear H
 have H := H1
 clear H1
 by_cases c14 : a0 = 3
 rotate_left
 focus(
 rw [if_neg c14] at H
 have c14b0 : (a0 == 3) = false := Dj c14
 have c14b1 : (a0 != 3) = true := Dm c14
 by_cases c18 : a2_2.toList = ([] : List UInt8)
 rotate_left
 focus(
 rw [if_neg c18] at H
 have c18b0 : a2_2.toList.isEmpty = false := by simpa using c18
 have c18b1 : (a2_2.toList == ([] : List UInt8)) = false := Dj c18
 have c18b2 : (a2_2.toList != ([] : List UInt8)) = true := Dm c18
 have c18b3 : ¬ (a2_2.toList = ([] : List UInt8)) := c18)
 rotate_right
 focus(
 rw [if_pos c18] at H
 have c18b0 : a2_2.toList.isEmpty = true := by simpa using c18
 have c18b1 : (a2_2.toList == ([] : List UInt8)) = true := Dl c18
 have c18b2 : (a2_2.toList != ([] : List UInt8)) = false := Dk c18
 have c18b3 : (a2_2.toList = ([] : List UInt8)) := c18
 clear c18
 by_cases c19 : a0 = 1
 rotate_left
 focus(
 rw [if_neg c19] at H
 have c19b0 : (a0 == 1) = false := Dj c19
 have c19b1 : (a0 != 1) = true := Dm c19
 by_cases c21 : a2_1 = 0
 rotate_left
 focus(
 rw [if_neg c21] at H
 have c21b0 : (a2_1 == 0) = false := Dj c21
 have c21b1 : (a2_1 != 0) = true := Dm c21)
 rotate_right
 focus(
 rw [if_pos c21] at H
 have c21b0 : (a2_1 == 0) = true := Dl c21
 have c21b1 : (a2_1 != 0) = false := Dk c21
 clear c21))
 rotate_right
 focus(
 rw [if_pos c19] at H
 have c19b0 : (a0 == 1) = true := Dl c19
 have c19b1 : (a0 != 1) = false := Dk c19
 clear c19)))
 rotate_right
 focus(
 rw [if_pos c14] at H
 have c14b0 : (a0 == 3) = true := Dl c14
 have c14b1 : (a0 != 3) = false := Dk c14
 clear c14
 by_cases c15 : a2_1 = 0
 rotate_left
 focus(
 rw [if_neg c15] at H
 have c15b0 : (a2_1 == 0) = false := Dj c15
 have c15b1 : (a2_1 != 0) = true := Dm c15)
 rotate_right
 focus(
 rw [if_pos c15] at H
 have c15b0 : (a2_1 == 0) = true := Dl c15
 have c15b1 : (a2_1 != 0) = false := Dk c15
 clear c15)))
 rotate_right
 focus(
 subst c8
 have H1 : (if a1 = true then (if a2_1 = 0 then (some (a2_2.toList == ([] : List UInt8))) else (some false)) else (some false)) = some r := by rw [if_pos rfl] at H; exact H
 clear H
 have H := H1
 clear H1
 by_cases c9 : a1 = true
 rotate_left
 focus(
 replace c9 := Dq c9
 subst c9
 have H1 : (some false) = some r := by rw [if_neg (show ¬ (false = true) by decide)] at H; exact H
 clear H
 have H := H1
 clear H1)
 rotate_right
 focus(
 subst c9
 have H1 : (if a2_1 = 0 then (some (a2_2.toList == ([] : List UInt8))) else (some false)) = some r := by rw [if_pos rfl] at H; exact H
 clear H
 have H := H1
 clear H1
 by_cases c10 : a2_1 = 0
 rotate_left
 focus(
 rw [if_neg c10] at H
 have c10b0 : (a2_1 == 0) = false := Dj c10
 have c10b1 : (a2_1 != 0) = true := Dm c10)
 rotate_right
 focus(
 rw [if_pos c10] at H
 have c10b0 : (a2_1 == 0) = true := Dl c10
 have c10b1 : (a2_1 != 0) = false := Dk c10
 clear c10)))
 all_goals(
 obtain rfl := Dp H
 obtain ⟨C11_0, C11_1, C11_2⟩ := cz3_ BK255.out
 obtain ⟨F11_0, F11_1, F11_2⟩ := fz3_ BK255.out
 go_wp2
 go_ret
 exact en_ HB))))
theorem TotP.same {α : Type} {o o' : Option α} (h : Ans o') (e : o = o') : TotP (fun r => o' = some r) (fun _ => o) := by
 obtain ⟨r, hr⟩ := h
 exact ⟨r, Ev.const (e.trans hr), hr⟩
theorem empty_is (b : ByteArray) : b.toList.isEmpty = (b.toList == ([] : List UInt8)) := by cases b.toList <;> rfl
theorem may09 (a0 : Int) (a1 b0 : Bool) (b1 : Int) (b2 : ByteArray) : TotP (fun r => Br.f a0 a1 b0 b1 b2 = some r) (fun k => Bk.f k a0 a1 b0 b1 b2) := by
 have hj : ∀ t : Bool, (t = true ↔ a0 < 1 ∨ a0 > 3) → TotP (fun r => Br.f a0 a1 b0 b1 b2 = some r) (fun k => Bk.j0 k a0 a1 t b0 b1 b2) := by(
 intro t ht
 refine TotP.succ (fun k => by simp only [Bk.j0]; rfl) ?_
 refine TotP.same (cellMay_ans _ _ _ _ _) ?_
 unfold Br.f
 rw [empty_is]
 by_cases h1 : a0 < 1 ∨ a0 > 3
 ·(
 have ht := ht.2 h1
 subst ht
 have n1 : ¬ a0 = 1 := by omega
 have n2 : ¬ a0 = 2 := by omega
 have n3 : ¬ a0 = 3 := by omega
 by_cases h2 : a0 ≥ 1
 ·(
 have h3 : ¬ a0 ≤ 3 := by omega
 simp [n1, n2, n3, h2, h3])
 ·simp [n1, n2, n3, h2])
 ·(
 have ht : t = false := Bool.eq_false_iff.2 (fun e => h1 (ht.1 e))
 subst ht
 have h2 : a0 ≥ 1 := by omega
 have h3 : a0 ≤ 3 := by omega
 by_cases e3 : a0 = 3
 ·(
 subst e3
 by_cases hz : b1 = 0 <;> by_cases he : b2.toList = [] <;> cases b0 <;> cases a1 <;> simp [hz, he])
 ·(
 by_cases e1 : a0 = 1
 ·(
 subst e1
 by_cases hz : b1 = 0 <;> by_cases he : b2.toList = [] <;> cases b0 <;> cases a1 <;> simp [hz, he])
 ·(
 have e2 : a0 = 2 := by omega
 subst e2
 by_cases hz : b1 = 0 <;> by_cases he : b2.toList = [] <;> cases b0 <;> cases a1 <;> simp [hz, he]))))
 unfold Bk.f
 refine TotP.ite (fun h => hj true (by simp [h])) (fun h => hj _ ?_)
 constructor
 ·intro h'; exact .inr (of_decide_eq_true h')
 ·(
 rintro (h' | h')
 ·exact absurd h' h
 ·exact decide_eq_true h')
end Go.Proofs.Ytdedmhmomoejkaa.X
