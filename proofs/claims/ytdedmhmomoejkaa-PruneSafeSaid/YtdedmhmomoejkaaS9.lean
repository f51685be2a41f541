/- Words and walks for X.pruneSafe_holds, part 9 of the texts that a program of this session laid together. -/
import Derived.Test.YtdedmhmomoejkaaS1
import Derived.Test.YtdedmhmomoejkaaS7
import Derived.Test.YtdedmhmomoejkaaS8
namespace Go.Proofs.Ytdedmhmomoejkaa.X
open Go.RowKit Go.Proofs.YtdedmhmomoejkaaW.PrintWords Go.Proofs.YtdedmhmomoejkaaW.PrintLast Go.Proofs.YtdedmhmomoejkaaW.PrintMore
attribute [local go_sem] max2_int max_two
set_option linter.unusedVariables false
set_option linter.unusedSimpArgs false
mutual
def Ar.j0 : Nat → List (S64) → Int → ByteArray → Int → Bool → Int → ByteArray → Int → ByteArray → List (S27) → Option (Bool)
 | 0, _, _, _, _, _, _, _, _, _, _ => none
 | k + 1, x0, x288000, x288001, x288002, x288003, x288004, x288005, x288006, x288007, x288008 => Ar.l0 k x0 0 x288000 x288001 x288002 x288003 x288004 x288005 x288006 x288007 x288008
def Ar.l0 : Nat → List (S64) → Int → Int → ByteArray → Int → Bool → Int → ByteArray → Int → ByteArray → List (S27) → Option (Bool)
 | 0, _, _, _, _, _, _, _, _, _, _, _ => none
 | k + 1, x0, x6, x288000, x288001, x288002, x288003, x288004, x288005, x288006, x288007, x288008 => if x6 < (x288008.length : Int) then (if 0 ≤ x6 then ((Ar.f k x0 ((Al x288008 x6).f0) ((Al x288008 x6).f1) ((Al x288008 x6).f2) ((Al x288008 x6).f3.f0) ((Al x288008 x6).f3.f1) ((Al x288008 x6).f3.f2) ((Al x288008 x6).f4) ((Al x288008 x6).f5) ((Al x288008 x6).f6)).bind fun t293 => (if t293 = true then (Ar.l0 k x0 (wrap64 (x6 + 1)) x288000 x288001 x288002 x288003 x288004 x288005 x288006 x288007 x288008) else (some false))) else (none)) else (some true)
def Ar.f : Nat → List (S64) → Int → ByteArray → Int → Bool → Int → ByteArray → Int → ByteArray → List (S27) → Option (Bool)
 | 0, _, _, _, _, _, _, _, _, _, _ => none
 | k + 1, l0, a1_0, a1_1, a1_2, a1_3, a1_4, a1_5, a1_6, a1_7, l1_8 => if a1_1.toList = ([] : List UInt8) then (Ar.j0 k l0 a1_0 a1_1 a1_2 a1_3 a1_4 a1_5 a1_6 a1_7 l1_8) else ((Ay.f k l0 a1_1).bind fun t288 => (if t288 < 0 then (some false) else (if a1_0 = 2 then (if 0 ≤ t288 then (if t288 < (l0.length : Int) then (if ((Bj l0 t288).f1) = a1_6 then (if a1_0 = 4 then (if ((Bj l0 t288).f1) = 3 then (Ar.j0 k l0 a1_0 a1_1 a1_2 a1_3 a1_4 a1_5 a1_6 a1_7 l1_8) else (some false)) else (Ar.j0 k l0 a1_0 a1_1 a1_2 a1_3 a1_4 a1_5 a1_6 a1_7 l1_8)) else (some false)) else (none)) else (none)) else (if a1_0 = 4 then (if 0 ≤ t288 then (if t288 < (l0.length : Int) then (if ((Bj l0 t288).f1) = 3 then (Ar.j0 k l0 a1_0 a1_1 a1_2 a1_3 a1_4 a1_5 a1_6 a1_7 l1_8) else (some false)) else (none)) else (none)) else (Ar.j0 k l0 a1_0 a1_1 a1_2 a1_3 a1_4 a1_5 a1_6 a1_7 l1_8)))))
end
theorem Ar.mono_l : ∀ k, (∀ y0 y1 y2 y3 y4 y5 y6 y7 y8 y9, LeO (Ar.f k y0 y1 y2 y3 y4 y5 y6 y7 y8 y9) (Ar.f (k + 1) y0 y1 y2 y3 y4 y5 y6 y7 y8 y9)) ∧ (∀ y0 y1 y2 y3 y4 y5 y6 y7 y8 y9, LeO (Ar.j0 k y0 y1 y2 y3 y4 y5 y6 y7 y8 y9) (Ar.j0 (k + 1) y0 y1 y2 y3 y4 y5 y6 y7 y8 y9)) ∧ (∀ y0 y1 y2 y3 y4 y5 y6 y7 y8 y9 y10, LeO (Ar.l0 k y0 y1 y2 y3 y4 y5 y6 y7 y8 y9 y10) (Ar.l0 (k + 1) y0 y1 y2 y3 y4 y5 y6 y7 y8 y9 y10))
 | 0 => ⟨fun _ _ _ _ _ _ _ _ _ _ r h => by simp [Ar.f] at h, fun _ _ _ _ _ _ _ _ _ _ r h => by simp [Ar.j0] at h, fun _ _ _ _ _ _ _ _ _ _ _ r h => by simp [Ar.l0] at h⟩
 | k + 1 => by
  obtain ⟨ih0, ih1, ih2⟩ := Ar.mono_l k
  refine ⟨?_, ?_, ?_⟩
  focus intro y0 y1 y2 y3 y4 y5 y6 y7 y8 y9;unfold Ar.f
  rotate_left
  focus intro y0 y1 y2 y3 y4 y5 y6 y7 y8 y9;unfold Ar.j0
  rotate_left
  focus intro y0 y1 y2 y3 y4 y5 y6 y7 y8 y9 y10;unfold Ar.l0
  rotate_left
  all_goals repeat' first|(with_reducible first|exact ih0 _ _ _ _ _ _ _ _ _ _|exact ih1 _ _ _ _ _ _ _ _ _ _|exact ih2 _ _ _ _ _ _ _ _ _ _ _|exact Ay.mono _ _ _|exact LeO.refl _|exact LeO.none _|refine LeO.ite ?_ ?_|refine LeO.bind ?_ fun _=>?_)|exact ih0 _ _ _ _ _ _ _ _ _ _|exact ih1 _ _ _ _ _ _ _ _ _ _|exact ih2 _ _ _ _ _ _ _ _ _ _ _|exact Ay.mono _ _ _|exact LeO.none _|refine LeO.ite ?_ ?_|refine LeO.bind ?_ fun _=>?_
theorem Ar.mono : ∀ a0 a1 a2 a3 a4 a5 a6 a7 a8 a9 k, LeO (Ar.f k a0 a1 a2 a3 a4 a5 a6 a7 a8 a9) (Ar.f (k + 1) a0 a1 a2 a3 a4 a5 a6 a7 a8 a9) := by
 intro a0 a1 a2 a3 a4 a5 a6 a7 a8 a9 k
 obtain ⟨ih0, ih1, ih2⟩ := Ar.mono_l k
 exact ih0 a0 a1 a2 a3 a4 a5 a6 a7 a8 a9
set_option maxHeartbeats 8000000 in
set_option maxRecDepth 100000 in
theorem Ar.calls (k : Nat) : ∀ (A0 : Option Addr) (c0 : Nat) (l0 : List (S64)) (a1_0 : Int) (a1_1 : ByteArray) (a1_2 : Int) (a1_3 : Bool) (a1_4 : Int) (a1_5 : ByteArray) (a1_6 : Int) (a1_7 : ByteArray) (A1_8 : Option Addr) (c1_8 : Nat) (l1_8 : List (S27)) (r : Bool) (w : World) (hr0 : Kd.C k64 w A0 l0.length l0) (hc0 : l0.length ≤ c0) (hr1_8 : Kd.C k27 w A1_8 l1_8.length l1_8) (hc1_8 : l1_8.length ≤ c1_8) (h : Ar.f k l0 a1_0 a1_1 a1_2 a1_3 a1_4 a1_5 a1_6 a1_7 l1_8 = some r),
  Calls Try.prog 56 #[.slice A0 l0.length c0, .agg #[.int .i64 a1_0, .string a1_1, .int .i64 a1_2, .bool a1_3, .int .i64 a1_4, .string a1_5, .int .i64 a1_6, .string a1_7, .slice A1_8 l1_8.length c1_8]] w fun e w' => e = .returned (.bool r) ∧ Below w.heap.size w w' := by
 induction k using Nat.strongRecOn with
 | _ k ih =>
 intro A0 c0 l0 a1_0 a1_1 a1_2 a1_3 a1_4 a1_5 a1_6 a1_7 A1_8 c1_8 l1_8 r w hr0 hc0 hr1_8 hc1_8 h
 cases k with
 | zero => exact absurd h (by simp [Ar.f])
 | succ k =>
 simp only [Ar.f] at h
 have hu27 := Try.underlying27
 have HR0 := Aa.mk hr0
 have HC0 := Aa.mk hc0
 clear hr0 hc0
 have HR1_8 := Aa.mk hr1_8
 have HC1_8 := Aa.mk hc1_8
 clear hr1_8 hc1_8
 have HB := Aa.mk (Below.refl w.heap.size w)
 have H : (if a1_1.toList = ([] : List UInt8) then (Ar.j0 k l0 a1_0 a1_1 a1_2 a1_3 a1_4 a1_5 a1_6 a1_7 l1_8) else ((Ay.f k l0 a1_1).bind fun t288 => (if t288 < 0 then (some false) else (if a1_0 = 2 then (if 0 ≤ t288 then (if t288 < (l0.length : Int) then (if ((Bj l0 t288).f1) = a1_6 then (if a1_0 = 4 then (if ((Bj l0 t288).f1) = 3 then (Ar.j0 k l0 a1_0 a1_1 a1_2 a1_3 a1_4 a1_5 a1_6 a1_7 l1_8) else (some false)) else (Ar.j0 k l0 a1_0 a1_1 a1_2 a1_3 a1_4 a1_5 a1_6 a1_7 l1_8)) else (some false)) else (none)) else (none)) else (if a1_0 = 4 then (if 0 ≤ t288 then (if t288 < (l0.length : Int) then (if ((Bj l0 t288).f1) = 3 then (Ar.j0 k l0 a1_0 a1_1 a1_2 a1_3 a1_4 a1_5 a1_6 a1_7 l1_8) else (some false)) else (none)) else (none)) else (Ar.j0 k l0 a1_0 a1_1 a1_2 a1_3 a1_4 a1_5 a1_6 a1_7 l1_8)))))) = some r := h
 clear h
 have HC3 := Aa.mk H
 clear H
 go_enter Try.func56, Try.ntmps56
 go_upto_if 9 with (first | (refine bx_ (N := 3) (cs := #[.int .i64 a1_0, .string a1_1, .int .i64 a1_2, .bool a1_3, .int .i64 a1_4, .string a1_5, .int .i64 a1_6, .string a1_7, .slice A1_8 l1_8.length c1_8]) (t := 27) ?_; intro gb287 hg w4 hbox hb; have BK287 := Aa.mk (hbox); have GW287 := ge_ HB hg; have GE287 := ge_ HB hg; replace HB := bs_ HB hb; clear hb hbox hg; obtain ⟨C5_0, C5_1, C5_2, C5_3, C5_4, C5_5, C5_6, C5_7, C5_8⟩ := zc9_ BK287.out; obtain ⟨F5_0, F5_1, F5_2, F5_3, F5_4, F5_5, F5_6, F5_7, F5_8⟩ := zf9_ BK287.out))
 repeat (go_quiet (first | (refine bx_ (N := 3) (cs := #[.int .i64 a1_0, .string a1_1, .int .i64 a1_2, .bool a1_3, .int .i64 a1_4, .string a1_5, .int .i64 a1_6, .string a1_7, .slice A1_8 l1_8.length c1_8]) (t := 27) ?_; intro gb287 hg w4 hbox hb; have BK287 := Aa.mk (hbox); have GW287 := ge_ HB hg; have GE287 := ge_ HB hg; replace HB := bs_ HB hb; clear hb hbox hg; obtain ⟨C5_0, C5_1, C5_2, C5_3, C5_4, C5_5, C5_6, C5_7, C5_8⟩ := zc9_ BK287.out; obtain ⟨F5_0, F5_1, F5_2, F5_3, F5_4, F5_5, F5_6, F5_7, F5_8⟩ := zf9_ BK287.out)); go_upto_if 9 with (first | (refine bx_ (N := 3) (cs := #[.int .i64 a1_0, .string a1_1, .int .i64 a1_2, .bool a1_3, .int .i64 a1_4, .string a1_5, .int .i64 a1_6, .string a1_7, .slice A1_8 l1_8.length c1_8]) (t := 27) ?_; intro gb287 hg w4 hbox hb; have BK287 := Aa.mk (hbox); have GW287 := ge_ HB hg; have GE287 := ge_ HB hg; replace HB := bs_ HB hb; clear hb hbox hg; obtain ⟨C5_0, C5_1, C5_2, C5_3, C5_4, C5_5, C5_6, C5_7, C5_8⟩ := zc9_ BK287.out; obtain ⟨F5_0, F5_1, F5_2, F5_3, F5_4, F5_5, F5_6, F5_7, F5_8⟩ := zf9_ BK287.out)))
 (try simp only [Act.put, List.setIfInBounds_toArray, List.set_cons_zero, List.set_cons_succ])
 go_cut [] (fun wc => ∃ (kq : Nat), Aa (Ar.j0 kq l0 a1_0 a1_1 a1_2 a1_3 a1_4 a1_5 a1_6 a1_7 l1_8 = some r) ∧ Aa (kq ≤ k) ∧ Aa (wc.heap[gb287]? = some (.cells #[.int .i64 a1_0, .string a1_1, .int .i64 a1_2, .bool a1_3, .int .i64 a1_4, .string a1_5, .int .i64 a1_6, .string a1_7, (.slice A1_8 l1_8.length c1_8)] 27 (0, 0))) ∧ Aa (Below w.heap.size w wc))
 case first =>(
 have H := HC3.out
 clear HC3
 by_cases c6 : a1_1.toList = ([] : List UInt8)
 ·(
 rw [if_pos c6] at H
 have c6b0 : a1_1.toList.isEmpty = true := by simpa using c6
 have c6b1 : (a1_1.toList == ([] : List UInt8)) = true := Dl c6
 have c6b2 : (a1_1.toList != ([] : List UInt8)) = false := Dk c6
 have c6b3 : (a1_1.toList = ([] : List UInt8)) := c6
 clear c6
 (first | rw [c6b0] | (simp only [i64_w, i32_w]; rw [c6b0]) | skip)
 have H' := Aa.mk H
 clear H
 go_wp2
 repeat (go_quiet (fail); try go_wp2)
 go_meet
 case rel => exact ⟨_, H', ⟨by first | omega | exact Nat.le_refl _⟩, ⟨by (with_reducible repeat (first | refine Ag ?_ _ | refine Af ?_ | refine Ae ?_ _)); exact BK287.out⟩, ⟨by repeat (first | (with_reducible first | exact HB.out | apply Ak | apply Ah | apply Aj | refine Ao ?_ GE287.out) | exact HB.out)⟩⟩)
 ·(
 rw [if_neg c6] at H
 have c6b0 : a1_1.toList.isEmpty = false := by simpa using c6
 have c6b1 : (a1_1.toList == ([] : List UInt8)) = false := Dj c6
 have c6b2 : (a1_1.toList != ([] : List UInt8)) = true := Dm c6
 have c6b3 : ¬ (a1_1.toList = ([] : List UInt8)) := c6
 (first | rw [c6b0] | (simp only [i64_w, i32_w]; rw [c6b0]) | skip)
 replace H := Dn H
 obtain ⟨t288, A70, H⟩ := H
 replace H : (if t288 < 0 then (some false) else (if a1_0 = 2 then (if 0 ≤ t288 then (if t288 < (l0.length : Int) then (if ((Bj l0 t288).f1) = a1_6 then (if a1_0 = 4 then (if ((Bj l0 t288).f1) = 3 then (Ar.j0 k l0 a1_0 a1_1 a1_2 a1_3 a1_4 a1_5 a1_6 a1_7 l1_8) else (some false)) else (Ar.j0 k l0 a1_0 a1_1 a1_2 a1_3 a1_4 a1_5 a1_6 a1_7 l1_8)) else (some false)) else (none)) else (none)) else (if a1_0 = 4 then (if 0 ≤ t288 then (if t288 < (l0.length : Int) then (if ((Bj l0 t288).f1) = 3 then (Ar.j0 k l0 a1_0 a1_1 a1_2 a1_3 a1_4 a1_5 a1_6 a1_7 l1_8) else (some false)) else (none)) else (none)) else (Ar.j0 k l0 a1_0 a1_1 a1_2 a1_3 a1_4 a1_5 a1_6 a1_7 l1_8)))) = some r := H
 have A7 := Aa.mk A70
 clear A70
 by_cases c8 : t288 < 0
 ·(
 rw [if_pos c8] at H
 have c8b0 : decide (t288 < 0) = true := decide_eq_true c8
 clear c8
 obtain rfl := Dp H
 obtain ⟨C9_0, C9_1, C9_2, C9_3, C9_4, C9_5, C9_6, C9_7, C9_8⟩ := cz9_ BK287.out
 obtain ⟨F9_0, F9_1, F9_2, F9_3, F9_4, F9_5, F9_6, F9_7, F9_8⟩ := fz9_ BK287.out
 go_wp2_with (first | (go_at_call 36; (with_reducible refine (Ay.calls k _ _ l0 a1_1 t288 _ ?side1 ?side2 A7.out).mono ?_); (case side1 => repeat (first | exact (Kd.C_below HR0.out HB.out) | (with_reducible refine Kd.C_alloc ?_ _) | (with_reducible refine Kd.C_drewN ?_ _) | (with_reducible refine Kd.C_drew ?_))); (case side2 => exact HC0.out); rintro e w' ⟨rfl, ⟨nd, rfl⟩⟩; (try first | exact ⟨rfl, _, World.drewN_drewN _ _ _⟩ | exact ⟨rfl, _, Eq.trans (World.drewN_drewN _ _ _) (congrArg (World.drewN _) (Nat.add_assoc _ _ _))⟩)))
 repeat (go_quiet (first | (go_at_call 36; (with_reducible refine (Ay.calls k _ _ l0 a1_1 t288 _ ?side1 ?side2 A7.out).mono ?_); (case side1 => repeat (first | exact (Kd.C_below HR0.out HB.out) | (with_reducible refine Kd.C_alloc ?_ _) | (with_reducible refine Kd.C_drewN ?_ _) | (with_reducible refine Kd.C_drew ?_))); (case side2 => exact HC0.out); rintro e w' ⟨rfl, ⟨nd, rfl⟩⟩; (try first | exact ⟨rfl, _, World.drewN_drewN _ _ _⟩ | exact ⟨rfl, _, Eq.trans (World.drewN_drewN _ _ _) (congrArg (World.drewN _) (Nat.add_assoc _ _ _))⟩))); try go_wp2_with (first | (go_at_call 36; (with_reducible refine (Ay.calls k _ _ l0 a1_1 t288 _ ?side1 ?side2 A7.out).mono ?_); (case side1 => repeat (first | exact (Kd.C_below HR0.out HB.out) | (with_reducible refine Kd.C_alloc ?_ _) | (with_reducible refine Kd.C_drewN ?_ _) | (with_reducible refine Kd.C_drew ?_))); (case side2 => exact HC0.out); rintro e w' ⟨rfl, ⟨nd, rfl⟩⟩; (try first | exact ⟨rfl, _, World.drewN_drewN _ _ _⟩ | exact ⟨rfl, _, Eq.trans (World.drewN_drewN _ _ _) (congrArg (World.drewN _) (Nat.add_assoc _ _ _))⟩))))
 go_ret
 exact en_ HB)
 ·(
 rw [if_neg c8] at H
 have c8b0 : decide (t288 < 0) = false := decide_eq_false c8
 clear c8
 by_cases c10 : a1_0 = 2
 ·(
 rw [if_pos c10] at H
 have c10b0 : (a1_0 == 2) = true := Dl c10
 have c10b1 : (a1_0 != 2) = false := Dk c10
 clear c10
 by_cases c11 : 0 ≤ t288
 ·(
 rw [if_pos c11] at H
 have c11b0 : decide (0 ≤ t288) = true := decide_eq_true c11
 clear c11
 by_cases c12 : t288 < (l0.length : Int)
 ·(
 rw [if_pos c12] at H
 have c12b0 : decide (t288 < (l0.length : Int)) = true := decide_eq_true c12
 clear c12
 by_cases c13 : ((Bj l0 t288).f1) = a1_6
 ·(
 rw [if_pos c13] at H
 have c13b0 : (((Bj l0 t288).f1) == a1_6) = true := Dl c13
 have c13b1 : (((Bj l0 t288).f1) != a1_6) = false := Dk c13
 clear c13
 by_cases c14 : a1_0 = 4
 ·(
 rw [if_pos c14] at H
 have c14b0 : (a1_0 == 4) = true := Dl c14
 have c14b1 : (a1_0 != 4) = false := Dk c14
 clear c14
 by_cases c15 : ((Bj l0 t288).f1) = 3
 ·(
 rw [if_pos c15] at H
 have c15b0 : (((Bj l0 t288).f1) == 3) = true := Dl c15
 have c15b1 : (((Bj l0 t288).f1) != 3) = false := Dk c15
 clear c15
 have H' := Aa.mk H
 clear H
 obtain ⟨C16_0, C16_1, C16_2, C16_3, C16_4, C16_5, C16_6, C16_7, C16_8⟩ := cz9_ BK287.out
 obtain ⟨F16_0, F16_1, F16_2, F16_3, F16_4, F16_5, F16_6, F16_7, F16_8⟩ := fz9_ BK287.out
 go_wp2_with (first | (go_at_call 36; (with_reducible refine (Ay.calls k _ _ l0 a1_1 t288 _ ?side1 ?side2 A7.out).mono ?_); (case side1 => repeat (first | exact (Kd.C_below HR0.out HB.out) | (with_reducible refine Kd.C_alloc ?_ _) | (with_reducible refine Kd.C_drewN ?_ _) | (with_reducible refine Kd.C_drew ?_))); (case side2 => exact HC0.out); rintro e w' ⟨rfl, ⟨nd, rfl⟩⟩; (try first | exact ⟨rfl, _, World.drewN_drewN _ _ _⟩ | exact ⟨rfl, _, Eq.trans (World.drewN_drewN _ _ _) (congrArg (World.drewN _) (Nat.add_assoc _ _ _))⟩); have p289 : 0 ≤ (t288 : Int) := dt_; have q289 : t288 < (l0.length : Int) := dt_; obtain ⟨ad289, e289, hx289_0, hx289_1, hx289_2⟩ := at_T64 HR0.out t288 p289 q289; cases e289; replace hx289_0 := hc_ HB hx289_0; replace hx289_1 := hc_ HB hx289_1; replace hx289_2 := hc_ HB hx289_2; replace p289 := eq_true p289; replace q289 := eq_true q289; have p290 : 0 ≤ (t288 : Int) := dt_; have q290 : t288 < (l0.length : Int) := dt_; obtain ⟨ad290, e290, hx290_0, hx290_1, hx290_2⟩ := at_T64 HR0.out t288 p290 q290; obtain rfl : ad289 = ad290 := (by injection e290); replace hx290_0 := hc_ HB hx290_0; replace hx290_1 := hc_ HB hx290_1; replace hx290_2 := hc_ HB hx290_2; replace p290 := eq_true p290; replace q290 := eq_true q290))
 repeat (go_quiet (first | (go_at_call 36; (with_reducible refine (Ay.calls k _ _ l0 a1_1 t288 _ ?side1 ?side2 A7.out).mono ?_); (case side1 => repeat (first | exact (Kd.C_below HR0.out HB.out) | (with_reducible refine Kd.C_alloc ?_ _) | (with_reducible refine Kd.C_drewN ?_ _) | (with_reducible refine Kd.C_drew ?_))); (case side2 => exact HC0.out); rintro e w' ⟨rfl, ⟨nd, rfl⟩⟩; (try first | exact ⟨rfl, _, World.drewN_drewN _ _ _⟩ | exact ⟨rfl, _, Eq.trans (World.drewN_drewN _ _ _) (congrArg (World.drewN _) (Nat.add_assoc _ _ _))⟩); have p289 : 0 ≤ (t288 : Int) := dt_; have q289 : t288 < (l0.length : Int) := dt_; obtain ⟨ad289, e289, hx289_0, hx289_1, hx289_2⟩ := at_T64 HR0.out t288 p289 q289; cases e289; replace hx289_0 := hc_ HB hx289_0; replace hx289_1 := hc_ HB hx289_1; replace hx289_2 := hc_ HB hx289_2; replace p289 := eq_true p289; replace q289 := eq_true q289; have p290 : 0 ≤ (t288 : Int) := dt_; have q290 : t288 < (l0.length : Int) := dt_; obtain ⟨ad290, e290, hx290_0, hx290_1, hx290_2⟩ := at_T64 HR0.out t288 p290 q290; obtain rfl : ad289 = ad290 := (by injection e290); replace hx290_0 := hc_ HB hx290_0; replace hx290_1 := hc_ HB hx290_1; replace hx290_2 := hc_ HB hx290_2; replace p290 := eq_true p290; replace q290 := eq_true q290)); try go_wp2_with (first | (go_at_call 36; (with_reducible refine (Ay.calls k _ _ l0 a1_1 t288 _ ?side1 ?side2 A7.out).mono ?_); (case side1 => repeat (first | exact (Kd.C_below HR0.out HB.out) | (with_reducible refine Kd.C_alloc ?_ _) | (with_reducible refine Kd.C_drewN ?_ _) | (with_reducible refine Kd.C_drew ?_))); (case side2 => exact HC0.out); rintro e w' ⟨rfl, ⟨nd, rfl⟩⟩; (try first | exact ⟨rfl, _, World.drewN_drewN _ _ _⟩ | exact ⟨rfl, _, Eq.trans (World.drewN_drewN _ _ _) (congrArg (World.drewN _) (Nat.add_assoc _ _ _))⟩); have p289 : 0 ≤ (t288 : Int) := dt_; have q289 : t288 < (l0.length : Int) := dt_; obtain ⟨ad289, e289, hx289_0, hx289_1, hx289_2⟩ := at_T64 HR0.out t288 p289 q289; cases e289; replace hx289_0 := hc_ HB hx289_0; replace hx289_1 := hc_ HB hx289_1; replace hx289_2 := hc_ HB hx289_2; replace p289 := eq_true p289; replace q289 := eq_true q289; have p290 : 0 ≤ (t288 : Int) := dt_; have q290 : t288 < (l0.length : Int) := dt_; obtain ⟨ad290, e290, hx290_0, hx290_1, hx290_2⟩ := at_T64 HR0.out t288 p290 q290; obtain rfl : ad289 = ad290 := (by injection e290); replace hx290_0 := hc_ HB hx290_0; replace hx290_1 := hc_ HB hx290_1; replace hx290_2 := hc_ HB hx290_2; replace p290 := eq_true p290; replace q290 := eq_true q290)))
 go_meet
 case rel => exact ⟨_, H', ⟨by first | omega | exact Nat.le_refl _⟩, ⟨by (with_reducible repeat (first | refine Ag ?_ _ | refine Af ?_ | refine Ae ?_ _)); exact BK287.out⟩, ⟨by repeat (first | (with_reducible first | exact HB.out | apply Ak | apply Ah | apply Aj | refine Ao ?_ GE287.out) | exact HB.out)⟩⟩)
 ·(
 rw [if_neg c15] at H
 have c15b0 : (((Bj l0 t288).f1) == 3) = false := Dj c15
 have c15b1 : (((Bj l0 t288).f1) != 3) = true := Dm c15
 obtain rfl := Dp H
 obtain ⟨C17_0, C17_1, C17_2, C17_3, C17_4, C17_5, C17_6, C17_7, C17_8⟩ := cz9_ BK287.out
 obtain ⟨F17_0, F17_1, F17_2, F17_3, F17_4, F17_5, F17_6, F17_7, F17_8⟩ := fz9_ BK287.out
 go_wp2_with (first | (go_at_call 36; (with_reducible refine (Ay.calls k _ _ l0 a1_1 t288 _ ?side1 ?side2 A7.out).mono ?_); (case side1 => repeat (first | exact (Kd.C_below HR0.out HB.out) | (with_reducible refine Kd.C_alloc ?_ _) | (with_reducible refine Kd.C_drewN ?_ _) | (with_reducible refine Kd.C_drew ?_))); (case side2 => exact HC0.out); rintro e w' ⟨rfl, ⟨nd, rfl⟩⟩; (try first | exact ⟨rfl, _, World.drewN_drewN _ _ _⟩ | exact ⟨rfl, _, Eq.trans (World.drewN_drewN _ _ _) (congrArg (World.drewN _) (Nat.add_assoc _ _ _))⟩); have p289 : 0 ≤ (t288 : Int) := dt_; have q289 : t288 < (l0.length : Int) := dt_; obtain ⟨ad289, e289, hx289_0, hx289_1, hx289_2⟩ := at_T64 HR0.out t288 p289 q289; cases e289; replace hx289_0 := hc_ HB hx289_0; replace hx289_1 := hc_ HB hx289_1; replace hx289_2 := hc_ HB hx289_2; replace p289 := eq_true p289; replace q289 := eq_true q289; have p290 : 0 ≤ (t288 : Int) := dt_; have q290 : t288 < (l0.length : Int) := dt_; obtain ⟨ad290, e290, hx290_0, hx290_1, hx290_2⟩ := at_T64 HR0.out t288 p290 q290; obtain rfl : ad289 = ad290 := (by injection e290); replace hx290_0 := hc_ HB hx290_0; replace hx290_1 := hc_ HB hx290_1; replace hx290_2 := hc_ HB hx290_2; replace p290 := eq_true p290; replace q290 := eq_true q290))
 repeat (go_quiet (first | (go_at_call 36; (with_reducible refine (Ay.calls k _ _ l0 a1_1 t288 _ ?side1 ?side2 A7.out).mono ?_); (case side1 => repeat (first | exact (Kd.C_below HR0.out HB.out) | (with_reducible refine Kd.C_alloc ?_ _) | (with_reducible refine Kd.C_drewN ?_ _) | (with_reducible refine Kd.C_drew ?_))); (case side2 => exact HC0.out); rintro e w' ⟨rfl, ⟨nd, rfl⟩⟩; (try first | exact ⟨rfl, _, World.drewN_drewN _ _ _⟩ | exact ⟨rfl, _, Eq.trans (World.drewN_drewN _ _ _) (congrArg (World.drewN _) (Nat.add_assoc _ _ _))⟩); have p289 : 0 ≤ (t288 : Int) := dt_; have q289 : t288 < (l0.length : Int) := dt_; obtain ⟨ad289, e289, hx289_0, hx289_1, hx289_2⟩ := at_T64 HR0.out t288 p289 q289; cases e289; replace hx289_0 := hc_ HB hx289_0; replace hx289_1 := hc_ HB hx289_1; replace hx289_2 := hc_ HB hx289_2; replace p289 := eq_true p289; replace q289 := eq_true q289; have p290 : 0 ≤ (t288 : Int) := dt_; have q290 : t288 < (l0.length : Int) := dt_; obtain ⟨ad290, e290, hx290_0, hx290_1, hx290_2⟩ := at_T64 HR0.out t288 p290 q290; obtain rfl : ad289 = ad290 := (by injection e290); replace hx290_0 := hc_ HB hx290_0; replace hx290_1 := hc_ HB hx290_1; replace hx290_2 := hc_ HB hx290_2; replace p290 := eq_true p290; replace q290 := eq_true q290)); try go_wp2_with (first | (go_at_call 36; (with_reducible refine (Ay.calls k _ _ l0 a1_1 t288 _ ?side1 ?side2 A7.out).mono ?_); (case side1 => repeat (first | exact (Kd.C_below HR0.out HB.out) | (with_reducible refine Kd.C_alloc ?_ _) | (with_reducible refine Kd.C_drewN ?_ _) | (with_reducible refine Kd.C_drew ?_))); (case side2 => exact HC0.out); rintro e w' ⟨rfl, ⟨nd, rfl⟩⟩; (try first | exact ⟨rfl, _, World.drewN_drewN _ _ _⟩ | exact ⟨rfl, _, Eq.trans (World.drewN_drewN _ _ _) (congrArg (World.drewN _) (Nat.add_assoc _ _ _))⟩); have p289 : 0 ≤ (t288 : Int) := dt_; have q289 : t288 < (l0.length : Int) := dt_; obtain ⟨ad289, e289, hx289_0, hx289_1, hx289_2⟩ := at_T64 HR0.out t288 p289 q289; cases e289; replace hx289_0 := hc_ HB hx289_0; replace hx289_1 := hc_ HB hx289_1; replace hx289_2 := hc_ HB hx289_2; replace p289 := eq_true p289; replace q289 := eq_true q289; have p290 : 0 ≤ (t288 : Int) := dt_; have q290 : t288 < (l0.length : Int) := dt_; obtain ⟨ad290, e290, hx290_0, hx290_1, hx290_2⟩ := at_T64 HR0.out t288 p290 q290; obtain rfl : ad289 = ad290 := (by injection e290); replace hx290_0 := hc_ HB hx290_0; replace hx290_1 := hc_ HB hx290_1; replace hx290_2 := hc_ HB hx290_2; replace p290 := eq_true p290; replace q290 := eq_true q290)))
 go_ret
 exact en_ HB))
 ·(
 rw [if_neg c14] at H
 have c14b0 : (a1_0 == 4) = false := Dj c14
 have c14b1 : (a1_0 != 4) = true := Dm c14
 have H' := Aa.mk H
 clear H
 obtain ⟨C18_0, C18_1, C18_2, C18_3, C18_4, C18_5, C18_6, C18_7, C18_8⟩ := cz9_ BK287.out
 obtain ⟨F18_0, F18_1, F18_2, F18_3, F18_4, F18_5, F18_6, F18_7, F18_8⟩ := fz9_ BK287.out
 go_wp2_with (first | (go_at_call 36; (with_reducible refine (Ay.calls k _ _ l0 a1_1 t288 _ ?side1 ?side2 A7.out).mono ?_); (case side1 => repeat (first | exact (Kd.C_below HR0.out HB.out) | (with_reducible refine Kd.C_alloc ?_ _) | (with_reducible refine Kd.C_drewN ?_ _) | (with_reducible refine Kd.C_drew ?_))); (case side2 => exact HC0.out); rintro e w' ⟨rfl, ⟨nd, rfl⟩⟩; (try first | exact ⟨rfl, _, World.drewN_drewN _ _ _⟩ | exact ⟨rfl, _, Eq.trans (World.drewN_drewN _ _ _) (congrArg (World.drewN _) (Nat.add_assoc _ _ _))⟩); have p289 : 0 ≤ (t288 : Int) := dt_; have q289 : t288 < (l0.length : Int) := dt_; obtain ⟨ad289, e289, hx289_0, hx289_1, hx289_2⟩ := at_T64 HR0.out t288 p289 q289; cases e289; replace hx289_0 := hc_ HB hx289_0; replace hx289_1 := hc_ HB hx289_1; replace hx289_2 := hc_ HB hx289_2; replace p289 := eq_true p289; replace q289 := eq_true q289))
 repeat (go_quiet (first | (go_at_call 36; (with_reducible refine (Ay.calls k _ _ l0 a1_1 t288 _ ?side1 ?side2 A7.out).mono ?_); (case side1 => repeat (first | exact (Kd.C_below HR0.out HB.out) | (with_reducible refine Kd.C_alloc ?_ _) | (with_reducible refine Kd.C_drewN ?_ _) | (with_reducible refine Kd.C_drew ?_))); (case side2 => exact HC0.out); rintro e w' ⟨rfl, ⟨nd, rfl⟩⟩; (try first | exact ⟨rfl, _, World.drewN_drewN _ _ _⟩ | exact ⟨rfl, _, Eq.trans (World.drewN_drewN _ _ _) (congrArg (World.drewN _) (Nat.add_assoc _ _ _))⟩); have p289 : 0 ≤ (t288 : Int) := dt_; have q289 : t288 < (l0.length : Int) := dt_; obtain ⟨ad289, e289, hx289_0, hx289_1, hx289_2⟩ := at_T64 HR0.out t288 p289 q289; cases e289; replace hx289_0 := hc_ HB hx289_0; replace hx289_1 := hc_ HB hx289_1; replace hx289_2 := hc_ HB hx289_2; replace p289 := eq_true p289; replace q289 := eq_true q289)); try go_wp2_with (first | (go_at_call 36; (with_reducible refine (Ay.calls k _ _ l0 a1_1 t288 _ ?side1 ?side2 A7.out).mono ?_); (case side1 => repeat (first | exact (Kd.C_below HR0.out HB.out) | (with_reducible refine Kd.C_alloc ?_ _) | (with_reducible refine Kd.C_drewN ?_ _) | (with_reducible refine Kd.C_drew ?_))); (case side2 => exact HC0.out); rintro e w' ⟨rfl, ⟨nd, rfl⟩⟩; (try first | exact ⟨rfl, _, World.drewN_drewN _ _ _⟩ | exact ⟨rfl, _, Eq.trans (World.drewN_drewN _ _ _) (congrArg (World.drewN _) (Nat.add_assoc _ _ _))⟩); have p289 : 0 ≤ (t288 : Int) := dt_; have q289 : t288 < (l0.length : Int) := dt_; obtain ⟨ad289, e289, hx289_0, hx289_1, hx289_2⟩ := at_T64 HR0.out t288 p289 q289; cases e289; replace hx289_0 := hc_ HB hx289_0; replace hx289_1 := hc_ HB hx289_1; replace hx289_2 := hc_ HB hx289_2; replace p289 := eq_true p289; replace q289 := eq_true q289)))
 go_meet
 case rel => exact ⟨_, H', ⟨by first | omega | exact Nat.le_refl _⟩, ⟨by (with_reducible repeat (first | refine Ag ?_ _ | refine Af ?_ | refine Ae ?_ _)); exact BK287.out⟩, ⟨by repeat (first | (with_reducible first | exact HB.out | apply Ak | apply Ah | apply Aj | refine Ao ?_ GE287.out) | exact HB.out)⟩⟩))
 ·(
 rw [if_neg c13] at H
 have c13b0 : (((Bj l0 t288).f1) == a1_6) = false := Dj c13
 have c13b1 : (((Bj l0 t288).f1) != a1_6) = true := Dm c13
 obtain rfl := Dp H
 obtain ⟨C19_0, C19_1, C19_2, C19_3, C19_4, C19_5, C19_6, C19_7, C19_8⟩ := cz9_ BK287.out
 obtain ⟨F19_0, F19_1, F19_2, F19_3, F19_4, F19_5, F19_6, F19_7, F19_8⟩ := fz9_ BK287.out
 go_wp2_with (first | (go_at_call 36; (with_reducible refine (Ay.calls k _ _ l0 a1_1 t288 _ ?side1 ?side2 A7.out).mono ?_); (case side1 => repeat (first | exact (Kd.C_below HR0.out HB.out) | (with_reducible refine Kd.C_alloc ?_ _) | (with_reducible refine Kd.C_drewN ?_ _) | (with_reducible refine Kd.C_drew ?_))); (case side2 => exact HC0.out); rintro e w' ⟨rfl, ⟨nd, rfl⟩⟩; (try first | exact ⟨rfl, _, World.drewN_drewN _ _ _⟩ | exact ⟨rfl, _, Eq.trans (World.drewN_drewN _ _ _) (congrArg (World.drewN _) (Nat.add_assoc _ _ _))⟩); have p289 : 0 ≤ (t288 : Int) := dt_; have q289 : t288 < (l0.length : Int) := dt_; obtain ⟨ad289, e289, hx289_0, hx289_1, hx289_2⟩ := at_T64 HR0.out t288 p289 q289; cases e289; replace hx289_0 := hc_ HB hx289_0; replace hx289_1 := hc_ HB hx289_1; replace hx289_2 := hc_ HB hx289_2; replace p289 := eq_true p289; replace q289 := eq_true q289))
 repeat (go_quiet (first | (go_at_call 36; (with_reducible refine (Ay.calls k _ _ l0 a1_1 t288 _ ?side1 ?side2 A7.out).mono ?_); (case side1 => repeat (first | exact (Kd.C_below HR0.out HB.out) | (with_reducible refine Kd.C_alloc ?_ _) | (with_reducible refine Kd.C_drewN ?_ _) | (with_reducible refine Kd.C_drew ?_))); (case side2 => exact HC0.out); rintro e w' ⟨rfl, ⟨nd, rfl⟩⟩; (try first | exact ⟨rfl, _, World.drewN_drewN _ _ _⟩ | exact ⟨rfl, _, Eq.trans (World.drewN_drewN _ _ _) (congrArg (World.drewN _) (Nat.add_assoc _ _ _))⟩); have p289 : 0 ≤ (t288 : Int) := dt_; have q289 : t288 < (l0.length : Int) := dt_; obtain ⟨ad289, e289, hx289_0, hx289_1, hx289_2⟩ := at_T64 HR0.out t288 p289 q289; cases e289; replace hx289_0 := hc_ HB hx289_0; replace hx289_1 := hc_ HB hx289_1; replace hx289_2 := hc_ HB hx289_2; replace p289 := eq_true p289; replace q289 := eq_true q289)); try go_wp2_with (first | (go_at_call 36; (with_reducible refine (Ay.calls k _ _ l0 a1_1 t288 _ ?side1 ?side2 A7.out).mono ?_); (case side1 => repeat (first | exact (Kd.C_below HR0.out HB.out) | (with_reducible refine Kd.C_alloc ?_ _) | (with_reducible refine Kd.C_drewN ?_ _) | (with_reducible refine Kd.C_drew ?_))); (case side2 => exact HC0.out); rintro e w' ⟨rfl, ⟨nd, rfl⟩⟩; (try first | exact ⟨rfl, _, World.drewN_drewN _ _ _⟩ | exact ⟨rfl, _, Eq.trans (World.drewN_drewN _ _ _) (congrArg (World.drewN _) (Nat.add_assoc _ _ _))⟩); have p289 : 0 ≤ (t288 : Int) := dt_; have q289 : t288 < (l0.length : Int) := dt_; obtain ⟨ad289, e289, hx289_0, hx289_1, hx289_2⟩ := at_T64 HR0.out t288 p289 q289; cases e289; replace hx289_0 := hc_ HB hx289_0; replace hx289_1 := hc_ HB hx289_1; replace hx289_2 := hc_ HB hx289_2; replace p289 := eq_true p289; replace q289 := eq_true q289)))
 go_ret
 exact en_ HB))
 ·(
 rw [if_neg c12] at H
 exact absurd H (by simp)))
 ·(
 rw [if_neg c11] at H
 exact absurd H (by simp)))
 ·(
 rw [if_neg c10] at H
 have c10b0 : (a1_0 == 2) = false := Dj c10
 have c10b1 : (a1_0 != 2) = true := Dm c10
 by_cases c20 : a1_0 = 4
 ·(
 rw [if_pos c20] at H
 have c20b0 : (a1_0 == 4) = true := Dl c20
 have c20b1 : (a1_0 != 4) = false := Dk c20
 clear c20
 by_cases c21 : 0 ≤ t288
 ·(
 rw [if_pos c21] at H
 have c21b0 : decide (0 ≤ t288) = true := decide_eq_true c21
 clear c21
 by_cases c22 : t288 < (l0.length : Int)
 ·(
 rw [if_pos c22] at H
 have c22b0 : decide (t288 < (l0.length : Int)) = true := decide_eq_true c22
 clear c22
 by_cases c23 : ((Bj l0 t288).f1) = 3
 ·(
 rw [if_pos c23] at H
 have c23b0 : (((Bj l0 t288).f1) == 3) = true := Dl c23
 have c23b1 : (((Bj l0 t288).f1) != 3) = false := Dk c23
 clear c23
 have H' := Aa.mk H
 clear H
 obtain ⟨C24_0, C24_1, C24_2, C24_3, C24_4, C24_5, C24_6, C24_7, C24_8⟩ := cz9_ BK287.out
 obtain ⟨F24_0, F24_1, F24_2, F24_3, F24_4, F24_5, F24_6, F24_7, F24_8⟩ := fz9_ BK287.out
 go_wp2_with (first | (go_at_call 36; (with_reducible refine (Ay.calls k _ _ l0 a1_1 t288 _ ?side1 ?side2 A7.out).mono ?_); (case side1 => repeat (first | exact (Kd.C_below HR0.out HB.out) | (with_reducible refine Kd.C_alloc ?_ _) | (with_reducible refine Kd.C_drewN ?_ _) | (with_reducible refine Kd.C_drew ?_))); (case side2 => exact HC0.out); rintro e w' ⟨rfl, ⟨nd, rfl⟩⟩; (try first | exact ⟨rfl, _, World.drewN_drewN _ _ _⟩ | exact ⟨rfl, _, Eq.trans (World.drewN_drewN _ _ _) (congrArg (World.drewN _) (Nat.add_assoc _ _ _))⟩); have p291 : 0 ≤ (t288 : Int) := dt_; have q291 : t288 < (l0.length : Int) := dt_; obtain ⟨ad291, e291, hx291_0, hx291_1, hx291_2⟩ := at_T64 HR0.out t288 p291 q291; cases e291; replace hx291_0 := hc_ HB hx291_0; replace hx291_1 := hc_ HB hx291_1; replace hx291_2 := hc_ HB hx291_2; replace p291 := eq_true p291; replace q291 := eq_true q291))
 repeat (go_quiet (first | (go_at_call 36; (with_reducible refine (Ay.calls k _ _ l0 a1_1 t288 _ ?side1 ?side2 A7.out).mono ?_); (case side1 => repeat (first | exact (Kd.C_below HR0.out HB.out) | (with_reducible refine Kd.C_alloc ?_ _) | (with_reducible refine Kd.C_drewN ?_ _) | (with_reducible refine Kd.C_drew ?_))); (case side2 => exact HC0.out); rintro e w' ⟨rfl, ⟨nd, rfl⟩⟩; (try first | exact ⟨rfl, _, World.drewN_drewN _ _ _⟩ | exact ⟨rfl, _, Eq.trans (World.drewN_drewN _ _ _) (congrArg (World.drewN _) (Nat.add_assoc _ _ _))⟩); have p291 : 0 ≤ (t288 : Int) := dt_; have q291 : t288 < (l0.length : Int) := dt_; obtain ⟨ad291, e291, hx291_0, hx291_1, hx291_2⟩ := at_T64 HR0.out t288 p291 q291; cases e291; replace hx291_0 := hc_ HB hx291_0; replace hx291_1 := hc_ HB hx291_1; replace hx291_2 := hc_ HB hx291_2; replace p291 := eq_true p291; replace q291 := eq_true q291)); try go_wp2_with (first | (go_at_call 36; (with_reducible refine (Ay.calls k _ _ l0 a1_1 t288 _ ?side1 ?side2 A7.out).mono ?_); (case side1 => repeat (first | exact (Kd.C_below HR0.out HB.out) | (with_reducible refine Kd.C_alloc ?_ _) | (with_reducible refine Kd.C_drewN ?_ _) | (with_reducible refine Kd.C_drew ?_))); (case side2 => exact HC0.out); rintro e w' ⟨rfl, ⟨nd, rfl⟩⟩; (try first | exact ⟨rfl, _, World.drewN_drewN _ _ _⟩ | exact ⟨rfl, _, Eq.trans (World.drewN_drewN _ _ _) (congrArg (World.drewN _) (Nat.add_assoc _ _ _))⟩); have p291 : 0 ≤ (t288 : Int) := dt_; have q291 : t288 < (l0.length : Int) := dt_; obtain ⟨ad291, e291, hx291_0, hx291_1, hx291_2⟩ := at_T64 HR0.out t288 p291 q291; cases e291; replace hx291_0 := hc_ HB hx291_0; replace hx291_1 := hc_ HB hx291_1; replace hx291_2 := hc_ HB hx291_2; replace p291 := eq_true p291; replace q291 := eq_true q291)))
 go_meet
 case rel => exact ⟨_, H', ⟨by first | omega | exact Nat.le_refl _⟩, ⟨by (with_reducible repeat (first | refine Ag ?_ _ | refine Af ?_ | refine Ae ?_ _)); exact BK287.out⟩, ⟨by repeat (first | (with_reducible first | exact HB.out | apply Ak | apply Ah | apply Aj | refine Ao ?_ GE287.out) | exact HB.out)⟩⟩)
 ·(
 rw [if_neg c23] at H
 have c23b0 : (((Bj l0 t288).f1) == 3) = false := Dj c23
 have c23b1 : (((Bj l0 t288).f1) != 3) = true := Dm c23
 obtain rfl := Dp H
 obtain ⟨C25_0, C25_1, C25_2, C25_3, C25_4, C25_5, C25_6, C25_7, C25_8⟩ := cz9_ BK287.out
 obtain ⟨F25_0, F25_1, F25_2, F25_3, F25_4, F25_5, F25_6, F25_7, F25_8⟩ := fz9_ BK287.out
 go_wp2_with (first | (go_at_call 36; (with_reducible refine (Ay.calls k _ _ l0 a1_1 t288 _ ?side1 ?side2 A7.out).mono ?_); (case side1 => repeat (first | exact (Kd.C_below HR0.out HB.out) | (with_reducible refine Kd.C_alloc ?_ _) | (with_reducible refine Kd.C_drewN ?_ _) | (with_reducible refine Kd.C_drew ?_))); (case side2 => exact HC0.out); rintro e w' ⟨rfl, ⟨nd, rfl⟩⟩; (try first | exact ⟨rfl, _, World.drewN_drewN _ _ _⟩ | exact ⟨rfl, _, Eq.trans (World.drewN_drewN _ _ _) (congrArg (World.drewN _) (Nat.add_assoc _ _ _))⟩); have p291 : 0 ≤ (t288 : Int) := dt_; have q291 : t288 < (l0.length : Int) := dt_; obtain ⟨ad291, e291, hx291_0, hx291_1, hx291_2⟩ := at_T64 HR0.out t288 p291 q291; cases e291; replace hx291_0 := hc_ HB hx291_0; replace hx291_1 := hc_ HB hx291_1; replace hx291_2 := hc_ HB hx291_2; replace p291 := eq_true p291; replace q291 := eq_true q291))
 repeat (go_quiet (first | (go_at_call 36; (with_reducible refine (Ay.calls k _ _ l0 a1_1 t288 _ ?side1 ?side2 A7.out).mono ?_); (case side1 => repeat (first | exact (Kd.C_below HR0.out HB.out) | (with_reducible refine Kd.C_alloc ?_ _) | (with_reducible refine Kd.C_drewN ?_ _) | (with_reducible refine Kd.C_drew ?_))); (case side2 => exact HC0.out); rintro e w' ⟨rfl, ⟨nd, rfl⟩⟩; (try first | exact ⟨rfl, _, World.drewN_drewN _ _ _⟩ | exact ⟨rfl, _, Eq.trans (World.drewN_drewN _ _ _) (congrArg (World.drewN _) (Nat.add_assoc _ _ _))⟩); have p291 : 0 ≤ (t288 : Int) := dt_; have q291 : t288 < (l0.length : Int) := dt_; obtain ⟨ad291, e291, hx291_0, hx291_1, hx291_2⟩ := at_T64 HR0.out t288 p291 q291; cases e291; replace hx291_0 := hc_ HB hx291_0; replace hx291_1 := hc_ HB hx291_1; replace hx291_2 := hc_ HB hx291_2; replace p291 := eq_true p291; replace q291 := eq_true q291)); try go_wp2_with (first | (go_at_call 36; (with_reducible refine (Ay.calls k _ _ l0 a1_1 t288 _ ?side1 ?side2 A7.out).mono ?_); (case side1 => repeat (first | exact (Kd.C_below HR0.out HB.out) | (with_reducible refine Kd.C_alloc ?_ _) | (with_reducible refine Kd.C_drewN ?_ _) | (with_reducible refine Kd.C_drew ?_))); (case side2 => exact HC0.out); rintro e w' ⟨rfl, ⟨nd, rfl⟩⟩; (try first | exact ⟨rfl, _, World.drewN_drewN _ _ _⟩ | exact ⟨rfl, _, Eq.trans (World.drewN_drewN _ _ _) (congrArg (World.drewN _) (Nat.add_assoc _ _ _))⟩); have p291 : 0 ≤ (t288 : Int) := dt_; have q291 : t288 < (l0.length : Int) := dt_; obtain ⟨ad291, e291, hx291_0, hx291_1, hx291_2⟩ := at_T64 HR0.out t288 p291 q291; cases e291; replace hx291_0 := hc_ HB hx291_0; replace hx291_1 := hc_ HB hx291_1; replace hx291_2 := hc_ HB hx291_2; replace p291 := eq_true p291; replace q291 := eq_true q291)))
 go_ret
 exact en_ HB))
 ·(
 rw [if_neg c22] at H
 exact absurd H (by simp)))
 ·(
 rw [if_neg c21] at H
 exact absurd H (by simp)))
 ·(
 rw [if_neg c20] at H
 have c20b0 : (a1_0 == 4) = false := Dj c20
 have c20b1 : (a1_0 != 4) = true := Dm c20
 have H' := Aa.mk H
 clear H
 obtain ⟨C26_0, C26_1, C26_2, C26_3, C26_4, C26_5, C26_6, C26_7, C26_8⟩ := cz9_ BK287.out
 obtain ⟨F26_0, F26_1, F26_2, F26_3, F26_4, F26_5, F26_6, F26_7, F26_8⟩ := fz9_ BK287.out
 go_wp2_with (first | (go_at_call 36; (with_reducible refine (Ay.calls k _ _ l0 a1_1 t288 _ ?side1 ?side2 A7.out).mono ?_); (case side1 => repeat (first | exact (Kd.C_below HR0.out HB.out) | (with_reducible refine Kd.C_alloc ?_ _) | (with_reducible refine Kd.C_drewN ?_ _) | (with_reducible refine Kd.C_drew ?_))); (case side2 => exact HC0.out); rintro e w' ⟨rfl, ⟨nd, rfl⟩⟩; (try first | exact ⟨rfl, _, World.drewN_drewN _ _ _⟩ | exact ⟨rfl, _, Eq.trans (World.drewN_drewN _ _ _) (congrArg (World.drewN _) (Nat.add_assoc _ _ _))⟩)))
 repeat (go_quiet (first | (go_at_call 36; (with_reducible refine (Ay.calls k _ _ l0 a1_1 t288 _ ?side1 ?side2 A7.out).mono ?_); (case side1 => repeat (first | exact (Kd.C_below HR0.out HB.out) | (with_reducible refine Kd.C_alloc ?_ _) | (with_reducible refine Kd.C_drewN ?_ _) | (with_reducible refine Kd.C_drew ?_))); (case side2 => exact HC0.out); rintro e w' ⟨rfl, ⟨nd, rfl⟩⟩; (try first | exact ⟨rfl, _, World.drewN_drewN _ _ _⟩ | exact ⟨rfl, _, Eq.trans (World.drewN_drewN _ _ _) (congrArg (World.drewN _) (Nat.add_assoc _ _ _))⟩))); try go_wp2_with (first | (go_at_call 36; (with_reducible refine (Ay.calls k _ _ l0 a1_1 t288 _ ?side1 ?side2 A7.out).mono ?_); (case side1 => repeat (first | exact (Kd.C_below HR0.out HB.out) | (with_reducible refine Kd.C_alloc ?_ _) | (with_reducible refine Kd.C_drewN ?_ _) | (with_reducible refine Kd.C_drew ?_))); (case side2 => exact HC0.out); rintro e w' ⟨rfl, ⟨nd, rfl⟩⟩; (try first | exact ⟨rfl, _, World.drewN_drewN _ _ _⟩ | exact ⟨rfl, _, Eq.trans (World.drewN_drewN _ _ _) (congrArg (World.drewN _) (Nat.add_assoc _ _ _))⟩))))
 go_meet
 case rel => exact ⟨_, H', ⟨by first | omega | exact Nat.le_refl _⟩, ⟨by (with_reducible repeat (first | refine Ag ?_ _ | refine Af ?_ | refine Ae ?_ _)); exact BK287.out⟩, ⟨by repeat (first | (with_reducible first | exact HB.out | apply Ak | apply Ah | apply Aj | refine Ao ?_ GE287.out) | exact HB.out)⟩⟩)))))
 case rest =>(
 clear HC3
 try clear c6
 try clear c6b0
 try clear c6b1
 try clear c6b2
 try clear c8
 try clear c8b0
 try clear c10
 try clear c10b0
 try clear c10b1
 try clear c11
 try clear c11b0
 try clear c12
 try clear c12b0
 try clear c13
 try clear c13b0
 try clear c13b1
 try clear c14
 try clear c14b0
 try clear c14b1
 try clear c15
 try clear c15b0
 try clear c15b1
 try clear c20
 try clear c20b0
 try clear c20b1
 try clear c21
 try clear c21b0
 try clear c22
 try clear c22b0
 try clear c23
 try clear c23b0
 try clear c23b1
 try clear C16_0 C16_1 C16_2 C16_3 C16_4 C16_5 C16_6 C16_7 C16_8
 try clear C17_0 C17_1 C17_2 C17_3 C17_4 C17_5 C17_6 C17_7 C17_8
 try clear C18_0 C18_1 C18_2 C18_3 C18_4 C18_5 C18_6 C18_7 C18_8
 try clear C19_0 C19_1 C19_2 C19_3 C19_4 C19_5 C19_6 C19_7 C19_8
 try clear C24_0 C24_1 C24_2 C24_3 C24_4 C24_5 C24_6 C24_7 C24_8
 try clear C25_0 C25_1 C25_2 C25_3 C25_4 C25_5 C25_6 C25_7 C25_8
 try clear C26_0 C26_1 C26_2 C26_3 C26_4 C26_5 C26_6 C26_7 C26_8
 try clear C5_0 C5_1 C5_2 C5_3 C5_4 C5_5 C5_6 C5_7 C5_8
 try clear C9_0 C9_1 C9_2 C9_3 C9_4 C9_5 C9_6 C9_7 C9_8
 try clear F16_0 F16_1 F16_2 F16_3 F16_4 F16_5 F16_6 F16_7 F16_8
 try clear F17_0 F17_1 F17_2 F17_3 F17_4 F17_5 F17_6 F17_7 F17_8
 try clear F18_0 F18_1 F18_2 F18_3 F18_4 F18_5 F18_6 F18_7 F18_8
 try clear F19_0 F19_1 F19_2 F19_3 F19_4 F19_5 F19_6 F19_7 F19_8
 try clear F24_0 F24_1 F24_2 F24_3 F24_4 F24_5 F24_6 F24_7 F24_8
 try clear F25_0 F25_1 F25_2 F25_3 F25_4 F25_5 F25_6 F25_7 F25_8
 try clear F26_0 F26_1 F26_2 F26_3 F26_4 F26_5 F26_6 F26_7 F26_8
 try clear F5_0 F5_1 F5_2 F5_3 F5_4 F5_5 F5_6 F5_7 F5_8
 try clear F9_0 F9_1 F9_2 F9_3 F9_4 F9_5 F9_6 F9_7 F9_8
 try clear hx289_0
 try clear hx289_1
 try clear hx289_2
 try clear hx290_0
 try clear hx290_1
 try clear hx290_2
 try clear hx291_0
 try clear hx291_1
 try clear hx291_2
 try clear p289
 try clear p290
 try clear p291
 try clear q289
 try clear q290
 try clear q291
 obtain ⟨kq, HA, HJ2, BK287, HB⟩ := hcut
 cases kq with
 | zero => exact absurd HA.out (by simp [Ar.j0])
 | succ kj2 =>(
 have H := HA.out
 clear HA
 simp only [Ar.j0] at H
 have H' := Aa.mk H
 clear H
 go_wp2
 repeat (go_quiet (fail); try go_wp2)
 go_loopg [6] kj2 (fun kq v6 w' => ∃ (x6_2 : Int), v6 = .int .i64 x6_2 ∧ Aa (Ar.l0 kq l0 x6_2 a1_0 a1_1 a1_2 a1_3 a1_4 a1_5 a1_6 a1_7 l1_8 = some r) ∧ Aa (kq ≤ kj2) ∧ Aa (w'.heap[gb287]? = some (.cells #[.int .i64 a1_0, .string a1_1, .int .i64 a1_2, .bool a1_3, .int .i64 a1_4, .string a1_5, .int .i64 a1_6, .string a1_7, (.slice A1_8 l1_8.length c1_8)] 27 (0, 0))) ∧ Aa (Below w.heap.size w w'))
 case atStart => exact ⟨_, (by first | rfl | (simp; done) | (simp [*]; done)), H', ⟨Nat.le_refl _⟩, ⟨by (with_reducible repeat (first | refine Ag ?_ _ | refine Af ?_ | refine Ae ?_ _)); exact BK287.out⟩, ⟨by repeat (first | (with_reducible first | exact HB.out | apply Ak | apply Ah | apply Aj | refine Ao ?_ GE287.out) | exact HB.out)⟩⟩
 case round =>(
 clear H'
 try clear C16_0 C16_1 C16_2 C16_3 C16_4 C16_5 C16_6 C16_7 C16_8
 try clear C17_0 C17_1 C17_2 C17_3 C17_4 C17_5 C17_6 C17_7 C17_8
 try clear C18_0 C18_1 C18_2 C18_3 C18_4 C18_5 C18_6 C18_7 C18_8
 try clear C19_0 C19_1 C19_2 C19_3 C19_4 C19_5 C19_6 C19_7 C19_8
 try clear C24_0 C24_1 C24_2 C24_3 C24_4 C24_5 C24_6 C24_7 C24_8
 try clear C25_0 C25_1 C25_2 C25_3 C25_4 C25_5 C25_6 C25_7 C25_8
 try clear C26_0 C26_1 C26_2 C26_3 C26_4 C26_5 C26_6 C26_7 C26_8
 try clear C5_0 C5_1 C5_2 C5_3 C5_4 C5_5 C5_6 C5_7 C5_8
 try clear C9_0 C9_1 C9_2 C9_3 C9_4 C9_5 C9_6 C9_7 C9_8
 try clear F16_0 F16_1 F16_2 F16_3 F16_4 F16_5 F16_6 F16_7 F16_8
 try clear F17_0 F17_1 F17_2 F17_3 F17_4 F17_5 F17_6 F17_7 F17_8
 try clear F18_0 F18_1 F18_2 F18_3 F18_4 F18_5 F18_6 F18_7 F18_8
 try clear F19_0 F19_1 F19_2 F19_3 F19_4 F19_5 F19_6 F19_7 F19_8
 try clear F24_0 F24_1 F24_2 F24_3 F24_4 F24_5 F24_6 F24_7 F24_8
 try clear F25_0 F25_1 F25_2 F25_3 F25_4 F25_5 F25_6 F25_7 F25_8
 try clear F26_0 F26_1 F26_2 F26_3 F26_4 F26_5 F26_6 F26_7 F26_8
 try clear F5_0 F5_1 F5_2 F5_3 F5_4 F5_5 F5_6 F5_7 F5_8
 try clear F9_0 F9_1 F9_2 F9_3 F9_4 F9_5 F9_6 F9_7 F9_8
 obtain ⟨x6_2, rfl, HA, HK2, BK287, HB⟩ := hrel
 cases gk with
 | zero => exact absurd HA.out (by simp [Ar.l0])
 | succ k2 =>(
 have H := HA.out
 clear HA
 simp only [Ar.l0] at H
 by_cases c27 : x6_2 < (l1_8.length : Int)
 ·(
 rw [if_pos c27] at H
 have c27b0 : decide (x6_2 < (l1_8.length : Int)) = true := decide_eq_true c27
 clear c27
 by_cases c28 : 0 ≤ x6_2
 ·(
 rw [if_pos c28] at H
 have c28b0 : decide (0 ≤ x6_2) = true := decide_eq_true c28
 clear c28
 replace H := Dn H
 obtain ⟨t293, A290, H⟩ := H
 replace H : (if t293 = true then (Ar.l0 k2 l0 (wrap64 (x6_2 + 1)) a1_0 a1_1 a1_2 a1_3 a1_4 a1_5 a1_6 a1_7 l1_8) else (some false)) = some r := H
 have A29 := Aa.mk A290
 clear A290
 by_cases c30 : t293 = true
 ·(
 subst c30
 have H1 : (Ar.l0 k2 l0 (wrap64 (x6_2 + 1)) a1_0 a1_1 a1_2 a1_3 a1_4 a1_5 a1_6 a1_7 l1_8) = some r := by rw [if_pos rfl] at H; exact H
 clear H
 have H := H1
 clear H1
 have H' := Aa.mk H
 clear H
 obtain ⟨C31_0, C31_1, C31_2, C31_3, C31_4, C31_5, C31_6, C31_7, C31_8⟩ := cz9_ BK287.out
 obtain ⟨F31_0, F31_1, F31_2, F31_3, F31_4, F31_5, F31_6, F31_7, F31_8⟩ := fz9_ BK287.out
 have p292 : 0 ≤ (x6_2 : Int) := dt_
 have q292 : x6_2 < (l1_8.length : Int) := dt_
 obtain ⟨ad292, A292_8, c292_8, e292, hx292_0, hx292_1, hx292_2, hx292_3, hx292_4, hx292_5, hx292_6, hx292_7, hx292_8, hl292_8, hi292_8⟩ := at_T27 HR1_8.out x6_2 p292 q292
 cases e292
 replace hx292_0 := hc_ HB hx292_0
 replace hx292_1 := hc_ HB hx292_1
 replace hx292_2 := hc_ HB hx292_2
 replace hx292_3 := hc_ HB hx292_3
 replace hx292_4 := hc_ HB hx292_4
 replace hx292_5 := hc_ HB hx292_5
 replace hx292_6 := hc_ HB hx292_6
 replace hx292_7 := hc_ HB hx292_7
 replace hx292_8 := hc_ HB hx292_8
 have HR292_8 := Aa.mk hi292_8
 have HC292_8 := Aa.mk hl292_8
 clear hi292_8 hl292_8
 replace p292 := eq_true p292
 replace q292 := eq_true q292
 go_wp2_with (first | (go_at_call 56; (with_reducible refine (ih k2 (by have := HJ2.out; have := HK2.out; omega) _ _ l0 ((Al l1_8 x6_2).f0) ((Al l1_8 x6_2).f1) ((Al l1_8 x6_2).f2) ((Al l1_8 x6_2).f3.f0) ((Al l1_8 x6_2).f3.f1) ((Al l1_8 x6_2).f3.f2) ((Al l1_8 x6_2).f4) ((Al l1_8 x6_2).f5) _ _ ((Al l1_8 x6_2).f6) true _ ?side1 ?side2 ?side3 ?side4 A29.out).mono ?_); (case side1 => repeat (first | exact (Kd.C_below HR0.out HB.out) | (with_reducible refine Kd.C_alloc ?_ _) | (with_reducible refine Kd.C_drewN ?_ _) | (with_reducible refine Kd.C_drew ?_))); (case side2 => exact HC0.out); (case side3 => repeat (first | exact (Kd.C_below HR292_8.out HB.out) | (with_reducible refine Kd.C_alloc ?_ _) | (with_reducible refine Kd.C_drewN ?_ _) | (with_reducible refine Kd.C_drew ?_))); (case side4 => exact HC292_8.out); rintro e w32 ⟨rfl, hb⟩;  replace BK287 := bk_ BK287 hb; replace HB := bs_ HB hb; (try clear hb)))
 repeat (go_quiet (first | (go_at_call 56; (with_reducible refine (ih k2 (by have := HJ2.out; have := HK2.out; omega) _ _ l0 ((Al l1_8 x6_2).f0) ((Al l1_8 x6_2).f1) ((Al l1_8 x6_2).f2) ((Al l1_8 x6_2).f3.f0) ((Al l1_8 x6_2).f3.f1) ((Al l1_8 x6_2).f3.f2) ((Al l1_8 x6_2).f4) ((Al l1_8 x6_2).f5) _ _ ((Al l1_8 x6_2).f6) true _ ?side1 ?side2 ?side3 ?side4 A29.out).mono ?_); (case side1 => repeat (first | exact (Kd.C_below HR0.out HB.out) | (with_reducible refine Kd.C_alloc ?_ _) | (with_reducible refine Kd.C_drewN ?_ _) | (with_reducible refine Kd.C_drew ?_))); (case side2 => exact HC0.out); (case side3 => repeat (first | exact (Kd.C_below HR292_8.out HB.out) | (with_reducible refine Kd.C_alloc ?_ _) | (with_reducible refine Kd.C_drewN ?_ _) | (with_reducible refine Kd.C_drew ?_))); (case side4 => exact HC292_8.out); rintro e w32 ⟨rfl, hb⟩;  replace BK287 := bk_ BK287 hb; replace HB := bs_ HB hb; (try clear hb))); try go_wp2_with (first | (go_at_call 56; (with_reducible refine (ih k2 (by have := HJ2.out; have := HK2.out; omega) _ _ l0 ((Al l1_8 x6_2).f0) ((Al l1_8 x6_2).f1) ((Al l1_8 x6_2).f2) ((Al l1_8 x6_2).f3.f0) ((Al l1_8 x6_2).f3.f1) ((Al l1_8 x6_2).f3.f2) ((Al l1_8 x6_2).f4) ((Al l1_8 x6_2).f5) _ _ ((Al l1_8 x6_2).f6) true _ ?side1 ?side2 ?side3 ?side4 A29.out).mono ?_); (case side1 => repeat (first | exact (Kd.C_below HR0.out HB.out) | (with_reducible refine Kd.C_alloc ?_ _) | (with_reducible refine Kd.C_drewN ?_ _) | (with_reducible refine Kd.C_drew ?_))); (case side2 => exact HC0.out); (case side3 => repeat (first | exact (Kd.C_below HR292_8.out HB.out) | (with_reducible refine Kd.C_alloc ?_ _) | (with_reducible refine Kd.C_drewN ?_ _) | (with_reducible refine Kd.C_drew ?_))); (case side4 => exact HC292_8.out); rintro e w32 ⟨rfl, hb⟩;  replace BK287 := bk_ BK287 hb; replace HB := bs_ HB hb; (try clear hb))))
 go_roundg k2
 case measure => have := HJ2.out; have := HK2.out; omega
 case rel => exact ⟨_, (by first | rfl | (simp; done) | (simp [*]; done)), H', ⟨by have := HJ2.out; have := HK2.out; omega⟩, ⟨by (with_reducible repeat (first | refine Ag ?_ _ | refine Af ?_ | refine Ae ?_ _)); exact BK287.out⟩, ⟨by repeat (first | (with_reducible first | exact HB.out | apply Ak | apply Ah | apply Aj | refine Ao ?_ GE287.out) | exact HB.out)⟩⟩)
 ·(
 replace c30 := Dq c30
 subst c30
 have H1 : (some false) = some r := by rw [if_neg (show ¬ (false = true) by decide)] at H; exact H
 clear H
 have H := H1
 clear H1
 obtain rfl := Dp H
 obtain ⟨C33_0, C33_1, C33_2, C33_3, C33_4, C33_5, C33_6, C33_7, C33_8⟩ := cz9_ BK287.out
 obtain ⟨F33_0, F33_1, F33_2, F33_3, F33_4, F33_5, F33_6, F33_7, F33_8⟩ := fz9_ BK287.out
 have p292 : 0 ≤ (x6_2 : Int) := dt_
 have q292 : x6_2 < (l1_8.length : Int) := dt_
 obtain ⟨ad292, A292_8, c292_8, e292, hx292_0, hx292_1, hx292_2, hx292_3, hx292_4, hx292_5, hx292_6, hx292_7, hx292_8, hl292_8, hi292_8⟩ := at_T27 HR1_8.out x6_2 p292 q292
 cases e292
 replace hx292_0 := hc_ HB hx292_0
 replace hx292_1 := hc_ HB hx292_1
 replace hx292_2 := hc_ HB hx292_2
 replace hx292_3 := hc_ HB hx292_3
 replace hx292_4 := hc_ HB hx292_4
 replace hx292_5 := hc_ HB hx292_5
 replace hx292_6 := hc_ HB hx292_6
 replace hx292_7 := hc_ HB hx292_7
 replace hx292_8 := hc_ HB hx292_8
 have HR292_8 := Aa.mk hi292_8
 have HC292_8 := Aa.mk hl292_8
 clear hi292_8 hl292_8
 replace p292 := eq_true p292
 replace q292 := eq_true q292
 go_wp2_with (first | (go_at_call 56; (with_reducible refine (ih k2 (by have := HJ2.out; have := HK2.out; omega) _ _ l0 ((Al l1_8 x6_2).f0) ((Al l1_8 x6_2).f1) ((Al l1_8 x6_2).f2) ((Al l1_8 x6_2).f3.f0) ((Al l1_8 x6_2).f3.f1) ((Al l1_8 x6_2).f3.f2) ((Al l1_8 x6_2).f4) ((Al l1_8 x6_2).f5) _ _ ((Al l1_8 x6_2).f6) false _ ?side1 ?side2 ?side3 ?side4 A29.out).mono ?_); (case side1 => repeat (first | exact (Kd.C_below HR0.out HB.out) | (with_reducible refine Kd.C_alloc ?_ _) | (with_reducible refine Kd.C_drewN ?_ _) | (with_reducible refine Kd.C_drew ?_))); (case side2 => exact HC0.out); (case side3 => repeat (first | exact (Kd.C_below HR292_8.out HB.out) | (with_reducible refine Kd.C_alloc ?_ _) | (with_reducible refine Kd.C_drewN ?_ _) | (with_reducible refine Kd.C_drew ?_))); (case side4 => exact HC292_8.out); rintro e w34 ⟨rfl, hb⟩;  replace BK287 := bk_ BK287 hb; replace HB := bs_ HB hb; (try clear hb)))
 repeat (go_quiet (first | (go_at_call 56; (with_reducible refine (ih k2 (by have := HJ2.out; have := HK2.out; omega) _ _ l0 ((Al l1_8 x6_2).f0) ((Al l1_8 x6_2).f1) ((Al l1_8 x6_2).f2) ((Al l1_8 x6_2).f3.f0) ((Al l1_8 x6_2).f3.f1) ((Al l1_8 x6_2).f3.f2) ((Al l1_8 x6_2).f4) ((Al l1_8 x6_2).f5) _ _ ((Al l1_8 x6_2).f6) false _ ?side1 ?side2 ?side3 ?side4 A29.out).mono ?_); (case side1 => repeat (first | exact (Kd.C_below HR0.out HB.out) | (with_reducible refine Kd.C_alloc ?_ _) | (with_reducible refine Kd.C_drewN ?_ _) | (with_reducible refine Kd.C_drew ?_))); (case side2 => exact HC0.out); (case side3 => repeat (first | exact (Kd.C_below HR292_8.out HB.out) | (with_reducible refine Kd.C_alloc ?_ _) | (with_reducible refine Kd.C_drewN ?_ _) | (with_reducible refine Kd.C_drew ?_))); (case side4 => exact HC292_8.out); rintro e w34 ⟨rfl, hb⟩;  replace BK287 := bk_ BK287 hb; replace HB := bs_ HB hb; (try clear hb))); try go_wp2_with (first | (go_at_call 56; (with_reducible refine (ih k2 (by have := HJ2.out; have := HK2.out; omega) _ _ l0 ((Al l1_8 x6_2).f0) ((Al l1_8 x6_2).f1) ((Al l1_8 x6_2).f2) ((Al l1_8 x6_2).f3.f0) ((Al l1_8 x6_2).f3.f1) ((Al l1_8 x6_2).f3.f2) ((Al l1_8 x6_2).f4) ((Al l1_8 x6_2).f5) _ _ ((Al l1_8 x6_2).f6) false _ ?side1 ?side2 ?side3 ?side4 A29.out).mono ?_); (case side1 => repeat (first | exact (Kd.C_below HR0.out HB.out) | (with_reducible refine Kd.C_alloc ?_ _) | (with_reducible refine Kd.C_drewN ?_ _) | (with_reducible refine Kd.C_drew ?_))); (case side2 => exact HC0.out); (case side3 => repeat (first | exact (Kd.C_below HR292_8.out HB.out) | (with_reducible refine Kd.C_alloc ?_ _) | (with_reducible refine Kd.C_drewN ?_ _) | (with_reducible refine Kd.C_drew ?_))); (case side4 => exact HC292_8.out); rintro e w34 ⟨rfl, hb⟩;  replace BK287 := bk_ BK287 hb; replace HB := bs_ HB hb; (try clear hb))))
 go_ret
 exact en_ HB))
 ·(
 rw [if_neg c28] at H
 exact absurd H (by simp)))
 ·(
 rw [if_neg c27] at H
 have c27b0 : decide (x6_2 < (l1_8.length : Int)) = false := decide_eq_false c27
 clear c27
 obtain rfl := Dp H
 obtain ⟨C35_0, C35_1, C35_2, C35_3, C35_4, C35_5, C35_6, C35_7, C35_8⟩ := cz9_ BK287.out
 obtain ⟨F35_0, F35_1, F35_2, F35_3, F35_4, F35_5, F35_6, F35_7, F35_8⟩ := fz9_ BK287.out
 go_wp2
 repeat (go_quiet (fail); try go_wp2)
 go_ret
 exact en_ HB)))))
theorem find12 (l : List S64) (s : ByteArray) (hl : l.length ≤ 9223372036854775806) : TotP (fun r => r = idxOf (fun y : S64 => y.f0.toList == s.toList) l) (fun k => Ay.f k l s) := by
 have key : ∀ (n i : Nat), i + n = l.length → (∀ (j : Nat) (y : S64), j < i → l[j]? = some y → (y.f0.toList == s.toList) = false) → TotP (fun r => r = idxOf (fun y : S64 => y.f0.toList == s.toList) l) (fun k => Ay.l0 k l s (i : Int)) := by(
 intro n
 induction n with
 | zero =>(
 intro i hi hall
 refine TotP.succ (fun k => by simp only [Ay.l0]; rfl) ?_
 refine TotP.ite (fun h => absurd h (by omega)) (fun _ => TotP.some_ ?_)
 rw [idxOf_miss]
 exact fun j y hj => hall j y (by have := (List.getElem?_eq_some_iff.1 hj).1; omega) hj)
 | succ n ih =>(
 intro i hi hall
 have hlt : i < l.length := by omega
 refine TotP.succ (fun k => by simp only [Ay.l0]; rfl) ?_
 refine TotP.ite (fun _ => ?_) (fun h => absurd (by omega) h)
 refine TotP.ite (fun _ => ?_) (fun h => absurd (by omega) h)
 rw [rd64_get l i hlt]
 refine TotP.ite (fun he => TotP.some_ ?_) (fun he => ?_)
 ·rw [idxOf_hit _ l i l[i] (List.getElem?_eq_getElem hlt) (by simpa using he) hall]
 ·(
 rw [wrap_in (by omega) (by omega), show (i : Int) + 1 = ((i + 1 : Nat) : Int) by omega]
 refine ih (i + 1) (by omega) (fun j y hj hy => ?_)
 by_cases e : j = i
 ·(
 subst e
 rw [List.getElem?_eq_getElem hlt] at hy
 injection hy with hy
 subst hy
 simpa using he)
 ·exact hall j y (by omega) hy)))
 have := key l.length 0 (by omega) (fun j y hj => absurd hj (Nat.not_lt_zero _))
 unfold Ay.f
 simpa using this
theorem ev_typed (l : List S64) : ∀ (d : Nat) (x : S27), (∃ c, cnt d x = some c) → ((ev (typedStep l) d x ()).1 = true ↔ AllL (typedB l) d x) := by
 intro d
 induction d with
 | zero => rintro x ⟨c, hc⟩; simp [cnt] at hc
 | succ d ih =>(
 rintro x ⟨c, hc⟩
 obtain ⟨a, ha, _⟩ := Option.bind_eq_some_iff.1 hc
 have key : ∀ (r : List S27), (∀ y, y ∈ r → ∃ c, cnt d y = some c) → ((evL (ev (typedStep l) d) r ()).1 = true ↔ ∀ y, y ∈ r → AllL (typedB l) d y) := by(
 intro r
 induction r with
 | nil => intro _; simp [evL]
 | cons y r ihr =>(
 intro h
 unfold evL
 have h1 := ih y (h y (by simp))
 have h2 := ihr (fun z hz => h z (by simp [hz]))
 cases hb : (ev (typedStep l) d y ()).1 with
 | false =>(
 rw [hb] at h1
 simp only [Bool.false_eq_true, false_iff] at h1
 simp [h1])
 | true =>(
 rw [hb] at h1
 have h1' := h1.1 rfl
 simp only [if_true]
 rw [h2]
 exact ⟨fun h z hz => by rcases List.mem_cons.1 hz with rfl | hz; exact h1'; exact h z hz, fun h z hz => h z (by simp [hz])⟩)))
 have hk := key x.f6 (cntL_mem _ _ _ ha)
 unfold ev
 simp only [typedStep, AllL]
 by_cases hb : typedB l x = true
 ·(
 simp only [hb, if_true, true_and]
 exact hk)
 ·simp [hb])
theorem typed17 (l : List S64) (hl : l.length ≤ 9223372036854775806) : ∀ (d : Nat) (x : S27), Fine d x → (∃ c, cnt d x = some c) →
    TotP (fun r => r = true ↔ AllL (typedB l) d x) (fun k => Ar.f k l x.f0 x.f1 x.f2 x.f3.f0 x.f3.f1 x.f3.f2 x.f4 x.f5 x.f6) := by
 intro d
 induction d with
 | zero => rintro x _ ⟨c, hc⟩; simp [cnt] at hc
 | succ d ih =>(
 rintro x ⟨⟨hlen, hs1, hs5, hs3⟩, hfk⟩ ⟨c, hc⟩
 obtain ⟨a, ha, _⟩ := Option.bind_eq_some_iff.1 hc
 have hkid : ∀ y, y ∈ x.f6 → TotP (fun r => r = true ↔ AllL (typedB l) d y) (fun k => Ar.f k l y.f0 y.f1 y.f2 y.f3.f0 y.f3.f1 y.f3.f2 y.f4 y.f5 y.f6) := fun y hy => ih y (hfk y hy) (cntL_mem _ _ _ ha y hy)
 have key : ∀ (r : List S27) (i : Nat), x.f6.drop i = r → i ≤ x.f6.length → TotP (fun t => t = true ↔ ∀ y, y ∈ r → AllL (typedB l) d y) (fun k => Ar.l0 k l (i : Int) x.f0 x.f1 x.f2 x.f3.f0 x.f3.f1 x.f3.f2 x.f4 x.f5 x.f6) := by(
 intro r
 induction r with
 | nil =>(
 intro i hr hi
 have hi' : i = x.f6.length := by(
 have := congrArg List.length hr
 simp at this
 omega)
 refine TotP.succ (fun k => by simp only [Ar.l0]; rfl) ?_
 exact TotP.ite (fun h => absurd h (by omega)) (fun _ => TotP.some_ (by simp)))
 | cons y r ihr =>(
 intro i hr hi
 have hi' : i < x.f6.length := by(
 have := congrArg List.length hr
 simp at this
 omega)
 have hy : Al x.f6 (i : Int) = y := by(
 have := congrArg List.head? hr
 rw [List.head?_drop] at this
 simp [Al, List.getD_eq_getElem?_getD, this])
 have hr' : x.f6.drop (i + 1) = r := by(
 have := congrArg List.tail hr
 simpa using this)
 have hmem : y ∈ x.f6 := by rw [← hy]; exact rd27_mem x.f6 i hi'
 refine TotP.succ (fun k => by simp only [Ar.l0]; rfl) ?_
 refine TotP.ite (fun _ => ?_) (fun h => absurd (by omega) h)
 refine TotP.ite (fun _ => ?_) (fun h => absurd (by omega) h)
 rw [hy, wrap_in (by omega) (by omega), show (i : Int) + 1 = ((i + 1 : Nat) : Int) by omega]
 refine TotP.bind (hkid y hmem) (fun b hb => ?_)
 refine TotP.ite (fun ht => ?_) (fun ht => TotP.some_ ?_)
 ·(
 refine (ihr (i + 1) hr' (by omega)).weak (fun t hh => hh.trans ⟨fun h z hz => ?_, fun h z hz => h z (by simp [hz])⟩)
 rcases List.mem_cons.1 hz with rfl | hz
 ·exact hb.1 ht
 ·exact h z hz)
 ·exact ⟨fun h => (by cases h), fun h => absurd (hb.2 (h y (by simp))) ht⟩))
 have hk : typedB l x = true → TotP (fun t => t = true ↔ AllL (typedB l) (d + 1) x) (fun k => Ar.j0 k l x.f0 x.f1 x.f2 x.f3.f0 x.f3.f1 x.f3.f2 x.f4 x.f5 x.f6) := by(
 intro hx
 refine TotP.succ (fun k => by simp only [Ar.j0]; rfl) ?_
 have := key x.f6 0 (by simp) (by omega)
 exact this.weak (fun t ht => ht.trans (by simp [AllL, hx])))
 have bad : typedB l x = false → TotP (fun t => t = true ↔ AllL (typedB l) (d + 1) x) (fun _ => some false) := fun h => TotP.some_ (by simp [AllL, h])
 have hts := typed_some l x
 unfold Dc.f Bw.f at hts
 refine TotP.succ (fun k => by simp only [Ar.f]; rfl) ?_
 refine TotP.ite (fun h0 => hk (by rw [if_pos h0] at hts; simpa using hts.symm)) (fun h0 => ?_)
 rw [if_neg h0] at hts
 simp only [Option.bind_some] at hts
 refine TotP.bind (find12 l x.f1 hl) (fun n hn => ?_)
 have hlt := idxOf_lt (fun y : S64 => y.f0.toList == x.f1.toList) l
 generalize idxOf (fun y : S64 => y.f0.toList == x.f1.toList) l = m at hn hlt hts
 subst hn
 refine TotP.ite (fun hm => bad ?_) (fun hm => ?_)
 ·(
 rw [decide_eq_false (show ¬ 0 ≤ n by omega)] at hts
 simpa using hts.symm)
 have hmx : mx n 0 = n := by unfold mx; split <;> omega
 rw [hmx, decide_eq_true (show 0 ≤ n by omega), if_pos rfl] at hts
 rw [if_pos (show 0 ≤ n by omega), if_pos hlt] at hts
 refine TotP.ite (fun h2 => ?_) (fun h2 => ?_)
 ·(
 rw [if_pos h2] at hts
 refine TotP.ite (fun _ => ?_) (fun h => absurd (by omega) h)
 refine TotP.ite (fun _ => ?_) (fun h => absurd hlt h)
 refine TotP.ite (fun he => ?_) (fun he => bad ?_)
 ·(
 refine TotP.ite (fun h4 => absurd h4 (by omega)) (fun _ => hk ?_)
 have hts := Dp hts
 rw [← hts]; simpa using he)
 ·(
 have hts := Dp hts
 rw [← hts]; simpa using he))
 ·(
 rw [if_neg h2] at hts
 refine TotP.ite (fun h4 => ?_) (fun h4 => hk ?_)
 ·(
 rw [if_pos h4] at hts
 try rw [if_pos (show 0 ≤ n by omega), if_pos hlt] at hts
 refine TotP.ite (fun _ => ?_) (fun h => absurd (by omega) h)
 refine TotP.ite (fun _ => ?_) (fun h => absurd hlt h)
 have hts := Dp hts
 refine TotP.ite (fun he => hk ?_) (fun he => bad ?_)
 ·rw [← hts]; simpa using he
 ·rw [← hts]; simpa using he)
 ·(
 rw [if_neg h4] at hts
 exact (Dp hts).symm)))
def Bf.j0 : Nat → List (S64) → Bool → Int → ByteArray → Int → Bool → Int → ByteArray → Int → ByteArray → List (S27) → Option (Int)
 | 0, _, _, _, _, _, _, _, _, _, _, _ => none
 | k + 1, x0, x12, x295000, x295001, x295002, x295003, x295004, x295005, x295006, x295007, x295008 => if x12 = true then (some 1) else ((Ar.f k x0 x295000 x295001 x295002 x295003 x295004 x295005 x295006 x295007 x295008).bind fun t297 => (if t297 = true then (some 0) else (some 10)))
def Bf.f (k : Nat) (l0 : List (S64)) (a1_0 : Int) (a1_1 : ByteArray) (a1_2 : Int) (a1_3 : Bool) (a1_4 : Int) (a1_5 : ByteArray) (a1_6 : Int) (a1_7 : ByteArray) (l1_8 : List (S27)) : Option (Int) := (Cd.f k a1_0 a1_1 a1_2 a1_3 a1_4 a1_5 a1_6 a1_7 l1_8).bind fun t295 => (if t295 = true then ((Ap.f k l0).bind fun t296 => (Bf.j0 k l0 (t296 != 0) a1_0 a1_1 a1_2 a1_3 a1_4 a1_5 a1_6 a1_7 l1_8)) else (Bf.j0 k l0 true a1_0 a1_1 a1_2 a1_3 a1_4 a1_5 a1_6 a1_7 l1_8))
theorem Bf.mono_l : ∀ k, (∀ y0 y1 y2 y3 y4 y5 y6 y7 y8 y9 y10, LeO (Bf.j0 k y0 y1 y2 y3 y4 y5 y6 y7 y8 y9 y10) (Bf.j0 (k + 1) y0 y1 y2 y3 y4 y5 y6 y7 y8 y9 y10))
 | 0 => fun _ _ _ _ _ _ _ _ _ _ _ r h => by simp [Bf.j0] at h
 | k + 1 => by
  have ih0 := Bf.mono_l k
  ·intro y0 y1 y2 y3 y4 y5 y6 y7 y8 y9 y10
   unfold Bf.j0
   repeat' first|(with_reducible first|exact ih0 _ _ _ _ _ _ _ _ _ _ _|exact Ap.mono _ _|exact Cd.mono _ _ _ _ _ _ _ _ _ _|exact Ar.mono _ _ _ _ _ _ _ _ _ _ _|exact LeO.refl _|exact LeO.none _|refine LeO.ite ?_ ?_|refine LeO.bind ?_ fun _=>?_)|exact ih0 _ _ _ _ _ _ _ _ _ _ _|exact Ap.mono _ _|exact Cd.mono _ _ _ _ _ _ _ _ _ _|exact Ar.mono _ _ _ _ _ _ _ _ _ _ _|exact LeO.none _|refine LeO.ite ?_ ?_|refine LeO.bind ?_ fun _=>?_
theorem Bf.mono : ∀ a0 a1 a2 a3 a4 a5 a6 a7 a8 a9 k, LeO (Bf.f k a0 a1 a2 a3 a4 a5 a6 a7 a8 a9) (Bf.f (k + 1) a0 a1 a2 a3 a4 a5 a6 a7 a8 a9) := by
 intro a0 a1 a2 a3 a4 a5 a6 a7 a8 a9 k
 have ih0 := Bf.mono_l k
 unfold Bf.f
 repeat' first|(with_reducible first|exact ih0 _ _ _ _ _ _ _ _ _ _ _|exact Ap.mono _ _|exact Cd.mono _ _ _ _ _ _ _ _ _ _|exact Ar.mono _ _ _ _ _ _ _ _ _ _ _|exact LeO.refl _|exact LeO.none _|refine LeO.ite ?_ ?_|refine LeO.bind ?_ fun _=>?_)|exact ih0 _ _ _ _ _ _ _ _ _ _ _|exact Ap.mono _ _|exact Cd.mono _ _ _ _ _ _ _ _ _ _|exact Ar.mono _ _ _ _ _ _ _ _ _ _ _|exact LeO.none _|refine LeO.ite ?_ ?_|refine LeO.bind ?_ fun _=>?_
set_option maxHeartbeats 8000000 in
set_option maxRecDepth 100000 in
theorem Bf.calls (k : Nat) (A0 : Option Addr) (c0 : Nat) (l0 : List (S64)) (a1_0 : Int) (a1_1 : ByteArray) (a1_2 : Int) (a1_3 : Bool) (a1_4 : Int) (a1_5 : ByteArray) (a1_6 : Int) (a1_7 : ByteArray) (A1_8 : Option Addr) (c1_8 : Nat) (l1_8 : List (S27)) (r : Int) (w : World) (hr0 : Kd.C k64 w A0 l0.length l0) (hc0 : l0.length ≤ c0) (hr1_8 : Kd.C k27 w A1_8 l1_8.length l1_8) (hc1_8 : l1_8.length ≤ c1_8) (h : Bf.f k l0 a1_0 a1_1 a1_2 a1_3 a1_4 a1_5 a1_6 a1_7 l1_8 = some r) :
  Calls Try.prog 30 #[.slice A0 l0.length c0, .agg #[.int .i64 a1_0, .string a1_1, .int .i64 a1_2, .bool a1_3, .int .i64 a1_4, .string a1_5, .int .i64 a1_6, .string a1_7, .slice A1_8 l1_8.length c1_8]] w fun e w' => e = .returned (.int .i64 r) ∧ Below w.heap.size w w' := by
 have hu27 := Try.underlying27
 have HR0 := Aa.mk hr0
 have HC0 := Aa.mk hc0
 clear hr0 hc0
 have HR1_8 := Aa.mk hr1_8
 have HC1_8 := Aa.mk hc1_8
 clear hr1_8 hc1_8
 have HB := Aa.mk (Below.refl w.heap.size w)
 have H : ((Cd.f k a1_0 a1_1 a1_2 a1_3 a1_4 a1_5 a1_6 a1_7 l1_8).bind fun t295 => (if t295 = true then ((Ap.f k l0).bind fun t296 => (Bf.j0 k l0 (t296 != 0) a1_0 a1_1 a1_2 a1_3 a1_4 a1_5 a1_6 a1_7 l1_8)) else (Bf.j0 k l0 true a1_0 a1_1 a1_2 a1_3 a1_4 a1_5 a1_6 a1_7 l1_8))) = some r := h
 clear h
 have HC3 := Aa.mk H
 clear H
 go_enter Try.func30, Try.ntmps30
 go_upto_region 1 with (first | (refine bx_ (N := 3) (cs := #[.int .i64 a1_0, .string a1_1, .int .i64 a1_2, .bool a1_3, .int .i64 a1_4, .string a1_5, .int .i64 a1_6, .string a1_7, .slice A1_8 l1_8.length c1_8]) (t := 27) ?_; intro gb294 hg w4 hbox hb; have BK294 := Aa.mk (hbox); have GW294 := ge_ HB hg; have GE294 := ge_ HB hg; replace HB := bs_ HB hb; clear hb hbox hg))
 (try simp only [Act.put, List.setIfInBounds_toArray, List.set_cons_zero, List.set_cons_succ])
 go_cut [12] (fun v12 wc => ∃ (kq : Nat) (x12_2 : Bool), v12 = .bool x12_2 ∧ Aa (Bf.j0 kq l0 x12_2 a1_0 a1_1 a1_2 a1_3 a1_4 a1_5 a1_6 a1_7 l1_8 = some r) ∧ Aa (kq ≤ k) ∧ Aa (wc.heap[gb294]? = some (.cells #[.int .i64 a1_0, .string a1_1, .int .i64 a1_2, .bool a1_3, .int .i64 a1_4, .string a1_5, .int .i64 a1_6, .string a1_7, (.slice A1_8 l1_8.length c1_8)] 27 (0, 0))) ∧ Aa (Below w.heap.size w wc))
 case first =>(
 have H := HC3.out
 clear HC3
 replace H := Dn H
 obtain ⟨t295, A50, H⟩ := H
 replace H : (if t295 = true then ((Ap.f k l0).bind fun t296 => (Bf.j0 k l0 (t296 != 0) a1_0 a1_1 a1_2 a1_3 a1_4 a1_5 a1_6 a1_7 l1_8)) else (Bf.j0 k l0 true a1_0 a1_1 a1_2 a1_3 a1_4 a1_5 a1_6 a1_7 l1_8)) = some r := H
 have A5 := Aa.mk A50
 clear A50
 by_cases c6 : t295 = true
 rotate_left
 focus(
 replace c6 := Dq c6
 subst c6
 have H1 : (Bf.j0 k l0 true a1_0 a1_1 a1_2 a1_3 a1_4 a1_5 a1_6 a1_7 l1_8) = some r := by rw [if_neg (show ¬ (false = true) by decide)] at H; exact H
 clear H
 have H := H1
 clear H1
 have H' := Aa.mk H
 clear H
 obtain ⟨C11_0, C11_1, C11_2, C11_3, C11_4, C11_5, C11_6, C11_7, C11_8⟩ := cz9_ BK294.out
 obtain ⟨F11_0, F11_1, F11_2, F11_3, F11_4, F11_5, F11_6, F11_7, F11_8⟩ := fz9_ BK294.out
 go_wp2_with (first | ((with_reducible refine Aw (f := 54) rfl ?_); refine gl_ (some 6) rfl Try.func54 #[.agg #[.int .i64 a1_0, .string a1_1, .int .i64 a1_2, .bool a1_3, .int .i64 a1_4, .string a1_5, .int .i64 a1_6, .string a1_7, .slice A1_8 l1_8.length c1_8]] ?_; (with_reducible refine (Cd.calls k a1_0 a1_1 a1_2 a1_3 a1_4 a1_5 a1_6 a1_7 _ _ l1_8 false _ ?side1 ?side2 A5.out).mono ?_); (case side1 => repeat (first | exact (Kd.C_below HR1_8.out HB.out) | (with_reducible refine Kd.C_alloc ?_ _) | (with_reducible refine Kd.C_drewN ?_ _) | (with_reducible refine Kd.C_drew ?_))); (case side2 => exact HC1_8.out); rintro e w12 ⟨rfl, hb⟩; refine ⟨_, rfl, ?_⟩;  replace BK294 := bk_ BK294 hb; replace HB := bs_ HB hb; (try clear hb))))
 rotate_right
 focus(
 subst c6
 have H1 : ((Ap.f k l0).bind fun t296 => (Bf.j0 k l0 (t296 != 0) a1_0 a1_1 a1_2 a1_3 a1_4 a1_5 a1_6 a1_7 l1_8)) = some r := by rw [if_pos rfl] at H; exact H
 clear H
 have H := H1
 clear H1
 replace H := Dn H
 obtain ⟨t296, A70, H⟩ := H
 replace H : (Bf.j0 k l0 (t296 != 0) a1_0 a1_1 a1_2 a1_3 a1_4 a1_5 a1_6 a1_7 l1_8) = some r := H
 have A7 := Aa.mk A70
 clear A70
 have H' := Aa.mk H
 clear H
 obtain ⟨C8_0, C8_1, C8_2, C8_3, C8_4, C8_5, C8_6, C8_7, C8_8⟩ := cz9_ BK294.out
 obtain ⟨F8_0, F8_1, F8_2, F8_3, F8_4, F8_5, F8_6, F8_7, F8_8⟩ := fz9_ BK294.out
 go_wp2_with (first | ((with_reducible refine Aw (f := 54) rfl ?_); refine gl_ (some 6) rfl Try.func54 #[.agg #[.int .i64 a1_0, .string a1_1, .int .i64 a1_2, .bool a1_3, .int .i64 a1_4, .string a1_5, .int .i64 a1_6, .string a1_7, .slice A1_8 l1_8.length c1_8]] ?_; (with_reducible refine (Cd.calls k a1_0 a1_1 a1_2 a1_3 a1_4 a1_5 a1_6 a1_7 _ _ l1_8 true _ ?side1 ?side2 A5.out).mono ?_); (case side1 => repeat (first | exact (Kd.C_below HR1_8.out HB.out) | (with_reducible refine Kd.C_alloc ?_ _) | (with_reducible refine Kd.C_drewN ?_ _) | (with_reducible refine Kd.C_drew ?_))); (case side2 => exact HC1_8.out); rintro e w9 ⟨rfl, hb⟩; refine ⟨_, rfl, ?_⟩;  replace BK294 := bk_ BK294 hb; replace HB := bs_ HB hb; (try clear hb)) | (go_at_call 55; (with_reducible refine (Ap.calls k _ _ l0 t296 _ ?side1 ?side2 A7.out).mono ?_); (case side1 => repeat (first | exact (Kd.C_below HR0.out HB.out) | (with_reducible refine Kd.C_alloc ?_ _) | (with_reducible refine Kd.C_drewN ?_ _) | (with_reducible refine Kd.C_drew ?_))); (case side2 => exact HC0.out); rintro e w10 ⟨rfl, hb⟩;  replace BK294 := bk_ BK294 hb; replace HB := bs_ HB hb; (try clear hb))))
 all_goals(
 go_meet
 case rel => exact ⟨_, _, (by first | rfl | (simp; done) | (simp [*]; done)), H', ⟨by first | omega | exact Nat.le_refl _⟩, ⟨by (with_reducible repeat (first | refine Ag ?_ _ | refine Af ?_ | refine Ae ?_ _)); exact BK294.out⟩, ⟨by repeat (first | (with_reducible first | exact HB.out | apply Ak | apply Ah | apply Aj | refine Ao ?_ GE294.out) | exact HB.out)⟩⟩))
 case rest =>(
 clear HC3
 try clear c6
 try clear C11_0 C11_1 C11_2 C11_3 C11_4 C11_5 C11_6 C11_7 C11_8
 try clear C8_0 C8_1 C8_2 C8_3 C8_4 C8_5 C8_6 C8_7 C8_8
 try clear F11_0 F11_1 F11_2 F11_3 F11_4 F11_5 F11_6 F11_7 F11_8
 try clear F8_0 F8_1 F8_2 F8_3 F8_4 F8_5 F8_6 F8_7 F8_8
 obtain ⟨kq, x12_2, rfl, HA, HJ2, BK294, HB⟩ := hcut
 cases kq with
 | zero => exact absurd HA.out (by simp [Bf.j0])
 | succ kj2 =>(
 have H := HA.out
 clear HA
 simp only [Bf.j0] at H
 by_cases c13 : x12_2 = true
 ·(
 subst c13
 have H1 : (some 1) = some r := by rw [if_pos rfl] at H; exact H
 clear H
 have H := H1
 clear H1
 obtain rfl := Dp H
 go_wp2
 go_ret
 exact en_ HB)
 ·(
 replace c13 := Dq c13
 subst c13
 have H1 : ((Ar.f kj2 l0 a1_0 a1_1 a1_2 a1_3 a1_4 a1_5 a1_6 a1_7 l1_8).bind fun t297 => (if t297 = true then (some 0) else (some 10))) = some r := by rw [if_neg (show ¬ (false = true) by decide)] at H; exact H
 clear H
 have H := H1
 clear H1
 replace H := Dn H
 obtain ⟨t297, A140, H⟩ := H
 replace H : (if t297 = true then (some 0) else (some 10)) = some r := H
 have A14 := Aa.mk A140
 clear A140
 by_cases c15 : t297 = true
 ·(
 subst c15
 have H1 : (some 0) = some r := by rw [if_pos rfl] at H; exact H
 clear H
 have H := H1
 clear H1
 obtain rfl := Dp H
 obtain ⟨C16_0, C16_1, C16_2, C16_3, C16_4, C16_5, C16_6, C16_7, C16_8⟩ := cz9_ BK294.out
 obtain ⟨F16_0, F16_1, F16_2, F16_3, F16_4, F16_5, F16_6, F16_7, F16_8⟩ := fz9_ BK294.out
 go_wp2_with (first | ((with_reducible refine Aw (f := 56) rfl ?_); refine gl_ (some 15) rfl Try.func56 #[.slice A0 l0.length c0, .agg #[.int .i64 a1_0, .string a1_1, .int .i64 a1_2, .bool a1_3, .int .i64 a1_4, .string a1_5, .int .i64 a1_6, .string a1_7, .slice A1_8 l1_8.length c1_8]] ?_; (with_reducible refine (Ar.calls kj2 _ _ l0 a1_0 a1_1 a1_2 a1_3 a1_4 a1_5 a1_6 a1_7 _ _ l1_8 true _ ?side1 ?side2 ?side3 ?side4 A14.out).mono ?_); (case side1 => repeat (first | exact (Kd.C_below HR0.out HB.out) | (with_reducible refine Kd.C_alloc ?_ _) | (with_reducible refine Kd.C_drewN ?_ _) | (with_reducible refine Kd.C_drew ?_))); (case side2 => exact HC0.out); (case side3 => repeat (first | exact (Kd.C_below HR1_8.out HB.out) | (with_reducible refine Kd.C_alloc ?_ _) | (with_reducible refine Kd.C_drewN ?_ _) | (with_reducible refine Kd.C_drew ?_))); (case side4 => exact HC1_8.out); rintro e w17 ⟨rfl, hb⟩; refine ⟨_, rfl, ?_⟩;  replace BK294 := bk_ BK294 hb; replace HB := bs_ HB hb; (try clear hb)))
 go_ret
 exact en_ HB)
 ·(
 replace c15 := Dq c15
 subst c15
 have H1 : (some 10) = some r := by rw [if_neg (show ¬ (false = true) by decide)] at H; exact H
 clear H
 have H := H1
 clear H1
 obtain rfl := Dp H
 obtain ⟨C18_0, C18_1, C18_2, C18_3, C18_4, C18_5, C18_6, C18_7, C18_8⟩ := cz9_ BK294.out
 obtain ⟨F18_0, F18_1, F18_2, F18_3, F18_4, F18_5, F18_6, F18_7, F18_8⟩ := fz9_ BK294.out
 go_wp2_with (first | ((with_reducible refine Aw (f := 56) rfl ?_); refine gl_ (some 15) rfl Try.func56 #[.slice A0 l0.length c0, .agg #[.int .i64 a1_0, .string a1_1, .int .i64 a1_2, .bool a1_3, .int .i64 a1_4, .string a1_5, .int .i64 a1_6, .string a1_7, .slice A1_8 l1_8.length c1_8]] ?_; (with_reducible refine (Ar.calls kj2 _ _ l0 a1_0 a1_1 a1_2 a1_3 a1_4 a1_5 a1_6 a1_7 _ _ l1_8 false _ ?side1 ?side2 ?side3 ?side4 A14.out).mono ?_); (case side1 => repeat (first | exact (Kd.C_below HR0.out HB.out) | (with_reducible refine Kd.C_alloc ?_ _) | (with_reducible refine Kd.C_drewN ?_ _) | (with_reducible refine Kd.C_drew ?_))); (case side2 => exact HC0.out); (case side3 => repeat (first | exact (Kd.C_below HR1_8.out HB.out) | (with_reducible refine Kd.C_alloc ?_ _) | (with_reducible refine Kd.C_drewN ?_ _) | (with_reducible refine Kd.C_drew ?_))); (case side4 => exact HC1_8.out); rintro e w19 ⟨rfl, hb⟩; refine ⟨_, rfl, ?_⟩;  replace BK294 := bk_ BK294 hb; replace HB := bs_ HB hb; (try clear hb)))
 go_ret
 exact en_ HB))))
theorem fits17 (l : List S64) (x : S27) (hl : l.length ≤ 9223372036854775806) (hs : ∀ y, y ∈ l → y.f0.size ≤ 9223372036854775806) (h : Fine 6 x) :
    TotP (fun r => r = fitsE l x) (fun k => Bf.f k l x.f0 x.f1 x.f2 x.f3.f0 x.f3.f1 x.f3.f2 x.f4 x.f5 x.f6) := by
 have j1 : ∀ b : Bool, b = true → ¬ (mayB x = true ∧ checkE l = 0) → TotP (fun r => r = fitsE l x) (fun k => Bf.j0 k l b x.f0 x.f1 x.f2 x.f3.f0 x.f3.f1 x.f3.f2 x.f4 x.f5 x.f6) := by(
 intro b hb hn
 refine TotP.succ (fun k => by simp only [Bf.j0]; rfl) ?_
 exact TotP.ite (fun _ => TotP.some_ (by unfold fitsE; rw [if_neg hn])) (fun h => absurd hb h))
 unfold Bf.f
 refine TotP.bind (may17 x h) (fun m hm => ?_)
 subst hm
 refine TotP.ite (fun hm => ?_) (fun hm => j1 true rfl (fun h' => hm h'.1))
 refine TotP.bind (check12 l hl hs) (fun e he => ?_)
 subst he
 by_cases hz : checkE l = 0
 ·(
 have hc : ∃ c, cnt 6 x = some c := by(
 have := (ev_may 6 x 0 (by omega)).1
 have hev : (ev mayStep 6 x 0).1 = true ↔ ∃ c, cnt 6 x = some c ∧ 0 + c ≤ 16 ∧ AllL locB 6 x := by simpa using this
 obtain ⟨c, hc, _⟩ := hev.1 hm
 exact ⟨c, hc⟩)
 refine TotP.succ (fun k => by simp only [Bf.j0]; rfl) ?_
 refine TotP.ite (fun g => absurd g (by simp [hz])) (fun _ => ?_)
 refine TotP.bind (typed17 l hl 6 x h hc) (fun t ht => ?_)
 have hev := ev_typed l 6 x hc
 unfold fitsE
 rw [if_pos ⟨hm, hz⟩]
 refine TotP.ite (fun g => TotP.some_ (by rw [if_pos (hev.2 (ht.1 g))])) (fun g => TotP.some_ (by rw [if_neg (fun h' => g (ht.2 (hev.1 h')))])))
 ·exact j1 _ (by simpa using hz) (fun h' => hz h'.2)
theorem small12 (l : List S64) (hl : l.length ≤ 9223372036854775807) : TotP (fun r => r = true → l.length ≤ 20 ∧ ∀ y, y ∈ l → y.f0.size ≤ 100) (fun k => Bd.f k l) := by
 unfold Bd.f
 have key : ∀ (n i : Nat), i + n = l.length → (∀ y, y ∈ l.take i → y.f0.size ≤ 100) → TotP (fun r => r = true → l.length ≤ 20 ∧ ∀ y, y ∈ l → y.f0.size ≤ 100) (fun k => Bd.l0 k l (i : Int)) := by(
 intro n
 induction n with
 | zero =>(
 intro i hi hall
 refine TotP.succ (fun k => by simp only [Bd.l0]; rfl) ?_
 refine TotP.ite (fun h => absurd h (by omega)) (fun _ => ?_)
 refine TotP.succ (fun k => by simp only [Bd.j1]; rfl) ?_
 refine TotP.ite (fun h => absurd h (by decide)) (fun _ => TotP.some_ (fun h => ⟨by have := of_decide_eq_true h; omega, fun y hy => hall y (by rw [List.take_of_length_le (by omega)]; exact hy)⟩)))
 | succ n ih =>(
 intro i hi hall
 have hlt : i < l.length := by omega
 refine TotP.succ (fun k => by simp only [Bd.l0]; rfl) ?_
 refine TotP.ite (fun _ => ?_) (fun h => absurd (by omega) h)
 refine TotP.succ (fun k => by simp only [Bd.j1]; rfl) ?_
 refine TotP.ite (fun _ => ?_) (fun h0 => TotP.some_ (fun h => by have h1 := of_decide_eq_true h; exact absurd (decide_eq_true (show (i : Int) < 30 by omega)) h0))
 refine TotP.ite (fun _ => ?_) (fun h => absurd (by omega) h)
 refine TotP.ite (fun _ => ?_) (fun h => absurd (by omega) h)
 rw [rd64_get l i hlt]
 refine TotP.ite (fun _ => TotP.some_ (by simp)) (fun g => ?_)
 rw [wrap_in (by omega) (by omega), show (i : Int) + 1 = ((i + 1 : Nat) : Int) by omega]
 refine ih (i + 1) (by omega) (fun y hy => ?_)
 rw [List.take_succ_eq_append_getElem hlt] at hy
 rcases List.mem_append.1 hy with hy | hy
 ·exact hall y hy
 ·rw [List.mem_singleton.1 hy]; omega))
 simpa using key l.length 0 (by omega) (by simp)
def Bb.j0 : Nat → Bool → Bool → Int → ByteArray → Bool → Int → ByteArray → Option (Int)
 | 0, _, _, _, _, _, _, _ => none
 | k + 1, x30, x299000, x299001, x299002, x300000, x300001, x300002 => if x30 = true then (some (-1)) else (if x299001 > x300001 then (some 1) else (if (Op.bytesLess x299002.toList x300002.toList) = true then (some 0) else (if x299002.toList = x300002.toList then (some 0) else (some 1))))
def Bb.f (k : Nat) (a0_0 : Bool) (a0_1 : Int) (a0_2 : ByteArray) (a1_0 : Bool) (a1_1 : Int) (a1_2 : ByteArray) : Option (Int) := if (a0_0 != a1_0) = true then (if a0_0 = true then (some (-1)) else (some 1)) else (if a0_1 < a1_1 then (Bb.j0 k true a0_0 a0_1 a0_2 a1_0 a1_1 a1_2) else (if a0_1 = a1_1 then (Bb.j0 k (Op.bytesLess a0_2.toList a1_2.toList) a0_0 a0_1 a0_2 a1_0 a1_1 a1_2) else (Bb.j0 k false a0_0 a0_1 a0_2 a1_0 a1_1 a1_2)))
theorem Bb.mono_l : ∀ k, (∀ y0 y1 y2 y3 y4 y5 y6, LeO (Bb.j0 k y0 y1 y2 y3 y4 y5 y6) (Bb.j0 (k + 1) y0 y1 y2 y3 y4 y5 y6))
 | 0 => fun _ _ _ _ _ _ _ r h => by simp [Bb.j0] at h
 | k + 1 => by
  have ih0 := Bb.mono_l k
  ·intro y0 y1 y2 y3 y4 y5 y6
   unfold Bb.j0
   repeat' first|(with_reducible first|exact ih0 _ _ _ _ _ _ _|exact LeO.refl _|exact LeO.none _|refine LeO.ite ?_ ?_|refine LeO.bind ?_ fun _=>?_)|exact ih0 _ _ _ _ _ _ _|exact LeO.none _|refine LeO.ite ?_ ?_|refine LeO.bind ?_ fun _=>?_
theorem Bb.mono : ∀ a0 a1 a2 a3 a4 a5 k, LeO (Bb.f k a0 a1 a2 a3 a4 a5) (Bb.f (k + 1) a0 a1 a2 a3 a4 a5) := by
 intro a0 a1 a2 a3 a4 a5 k
 have ih0 := Bb.mono_l k
 unfold Bb.f
 repeat' first|(with_reducible first|exact ih0 _ _ _ _ _ _ _|exact LeO.refl _|exact LeO.none _|refine LeO.ite ?_ ?_|refine LeO.bind ?_ fun _=>?_)|exact ih0 _ _ _ _ _ _ _|exact LeO.none _|refine LeO.ite ?_ ?_|refine LeO.bind ?_ fun _=>?_
set_option maxHeartbeats 8000000 in
set_option maxRecDepth 100000 in
theorem Bb.calls (k : Nat) (a0_0 : Bool) (a0_1 : Int) (a0_2 : ByteArray) (a1_0 : Bool) (a1_1 : Int) (a1_2 : ByteArray) (r : Int) (w : World) (h : Bb.f k a0_0 a0_1 a0_2 a1_0 a1_1 a1_2 = some r) :
  Calls Try.prog 35 #[.agg #[.bool a0_0, .int .i64 a0_1, .string a0_2], .agg #[.bool a1_0, .int .i64 a1_1, .string a1_2]] w fun e w' => e = .returned (.int .i64 r) ∧ Below w.heap.size w w' := by
 have hu24 := Try.underlying24
 have HB := Aa.mk (Below.refl w.heap.size w)
 have H : (if (a0_0 != a1_0) = true then (if a0_0 = true then (some (-1)) else (some 1)) else (if a0_1 < a1_1 then (Bb.j0 k true a0_0 a0_1 a0_2 a1_0 a1_1 a1_2) else (if a0_1 = a1_1 then (Bb.j0 k (Op.bytesLess a0_2.toList a1_2.toList) a0_0 a0_1 a0_2 a1_0 a1_1 a1_2) else (Bb.j0 k false a0_0 a0_1 a0_2 a1_0 a1_1 a1_2)))) = some r := h
 clear h
 by_cases c3 : (a0_0 != a1_0) = true
 ·(
 rw [if_pos c3] at H
 have c3b0 : (a0_0 != a1_0) = true := c3
 (try (have c3b1 : decide (a0_0 = a1_0) = false := by simpa using c3))
 (try (have c3b2 : (a0_0 == a1_0) = false := by simpa using c3))
 (try (have c3b3 : ¬ (a0_0 = a1_0) := by simpa using c3))
 clear c3
 by_cases c4 : a0_0 = true
 ·(
 subst c4
 have H1 : (some (-1)) = some r := by rw [if_pos rfl] at H; exact H
 clear H
 have H := H1
 clear H1
 obtain rfl := Dp H
 go_enter Try.func35, Try.ntmps35
 go_wp2_with (first | (refine bx_ (N := 2) (cs := #[.bool true, .int .i64 a0_1, .string a0_2]) (t := 24) ?_; intro gb298 hg w5 hbox hb; have BK298 := Aa.mk (hbox); have GW298 := ge_ HB hg; have GE298 := ge_ HB hg; replace HB := bs_ HB hb; clear hb hbox hg) | (refine bx_ (N := 3) (cs := #[.bool a1_0, .int .i64 a1_1, .string a1_2]) (t := 24) ?_; intro gb299 hg w6 hbox hb; have BK299 := Aa.mk (hbox); have GW299 := ge_ HB hg; have GE299 := ge_ HB hg; have NB298_299 := lt_ BK298 hg; have NB299_298 := gt_ BK298 hg; replace BK298 := bk_ BK298 hb; replace HB := bs_ HB hb; clear hb hbox hg; have hnb7 := NB298_299.out; have hnc7 := NB299_298.out; obtain ⟨C8_0, C8_1, C8_2⟩ := zc3_ BK298.out; obtain ⟨F8_0, F8_1, F8_2⟩ := zf3_ BK298.out; obtain ⟨C9_0, C9_1, C9_2⟩ := zc3_ BK299.out; obtain ⟨F9_0, F9_1, F9_2⟩ := zf3_ BK299.out))
 go_ret
 exact en_ HB)
 ·(
 replace c4 := Dq c4
 subst c4
 have H1 : (some 1) = some r := by rw [if_neg (show ¬ (false = true) by decide)] at H; exact H
 clear H
 have H := H1
 clear H1
 obtain rfl := Dp H
 go_enter Try.func35, Try.ntmps35
 go_wp2_with (first | (refine bx_ (N := 2) (cs := #[.bool false, .int .i64 a0_1, .string a0_2]) (t := 24) ?_; intro gb298 hg w10 hbox hb; have BK298 := Aa.mk (hbox); have GW298 := ge_ HB hg; have GE298 := ge_ HB hg; replace HB := bs_ HB hb; clear hb hbox hg) | (refine bx_ (N := 3) (cs := #[.bool a1_0, .int .i64 a1_1, .string a1_2]) (t := 24) ?_; intro gb299 hg w11 hbox hb; have BK299 := Aa.mk (hbox); have GW299 := ge_ HB hg; have GE299 := ge_ HB hg; have NB298_299 := lt_ BK298 hg; have NB299_298 := gt_ BK298 hg; replace BK298 := bk_ BK298 hb; replace HB := bs_ HB hb; clear hb hbox hg; have hnb12 := NB298_299.out; have hnc12 := NB299_298.out; obtain ⟨C13_0, C13_1, C13_2⟩ := zc3_ BK298.out; obtain ⟨F13_0, F13_1, F13_2⟩ := zf3_ BK298.out; obtain ⟨C14_0, C14_1, C14_2⟩ := zc3_ BK299.out; obtain ⟨F14_0, F14_1, F14_2⟩ := zf3_ BK299.out))
 go_ret
 exact en_ HB))
 ·(
 rw [if_neg c3] at H
 have c3b0 : (a0_0 != a1_0) = false := by simpa using c3
 (try (have c3b1 : decide (a0_0 = a1_0) = true := by simpa using c3))
 (try (have c3b2 : (a0_0 == a1_0) = true := by simpa using c3))
 clear c3
 have HC15 := Aa.mk H
 clear H
 go_enter Try.func35, Try.ntmps35
 go_upto_region 5 with (first | (refine bx_ (N := 2) (cs := #[.bool a0_0, .int .i64 a0_1, .string a0_2]) (t := 24) ?_; intro gb298 hg w16 hbox hb; have BK298 := Aa.mk (hbox); have GW298 := ge_ HB hg; have GE298 := ge_ HB hg; replace HB := bs_ HB hb; clear hb hbox hg) | (refine bx_ (N := 3) (cs := #[.bool a1_0, .int .i64 a1_1, .string a1_2]) (t := 24) ?_; intro gb299 hg w17 hbox hb; have BK299 := Aa.mk (hbox); have GW299 := ge_ HB hg; have GE299 := ge_ HB hg; have NB298_299 := lt_ BK298 hg; have NB299_298 := gt_ BK298 hg; replace BK298 := bk_ BK298 hb; replace HB := bs_ HB hb; clear hb hbox hg; have hnb18 := NB298_299.out; have hnc18 := NB299_298.out; obtain ⟨C19_0, C19_1, C19_2⟩ := zc3_ BK298.out; obtain ⟨F19_0, F19_1, F19_2⟩ := zf3_ BK298.out; obtain ⟨C20_0, C20_1, C20_2⟩ := zc3_ BK299.out; obtain ⟨F20_0, F20_1, F20_2⟩ := zf3_ BK299.out))
 (try simp only [Act.put, List.setIfInBounds_toArray, List.set_cons_zero, List.set_cons_succ])
 go_cut [30] (fun v30 wc => ∃ (kq : Nat) (x30_14 : Bool), v30 = .bool x30_14 ∧ Aa (Bb.j0 kq x30_14 a0_0 a0_1 a0_2 a1_0 a1_1 a1_2 = some r) ∧ Aa (kq ≤ k) ∧ Aa (wc.heap[gb298]? = some (.cells #[.bool a0_0, .int .i64 a0_1, .string a0_2] 24 (0, 0))) ∧ Aa (wc.heap[gb299]? = some (.cells #[.bool a1_0, .int .i64 a1_1, .string a1_2] 24 (0, 0))) ∧ Aa (Below w.heap.size w wc))
 case first =>(
 have H := HC15.out
 clear HC15
 by_cases c21 : a0_1 < a1_1
 rotate_left
 focus(
 rw [if_neg c21] at H
 have c21b0 : decide (a0_1 < a1_1) = false := decide_eq_false c21
 clear c21
 (first | rw [c21b0] | (simp only [i64_w, i32_w]; rw [c21b0]) | skip)
 by_cases c25 : a0_1 = a1_1
 rotate_left
 focus(
 rw [if_neg c25] at H
 have c25b0 : (a0_1 == a1_1) = false := Dj c25
 have c25b1 : (a0_1 != a1_1) = true := Dm c25)
 rotate_right
 focus(
 rw [if_pos c25] at H
 have c25b0 : (a0_1 == a1_1) = true := Dl c25
 have c25b1 : (a0_1 != a1_1) = false := Dk c25
 clear c25))
 rotate_right
 focus(
 rw [if_pos c21] at H
 have c21b0 : decide (a0_1 < a1_1) = true := decide_eq_true c21
 clear c21
 (first | rw [c21b0] | (simp only [i64_w, i32_w]; rw [c21b0]) | skip))
 all_goals(
 have H' := Aa.mk H
 clear H
 have hnb22 := NB298_299.out
 have hnc22 := NB299_298.out
 obtain ⟨C23_0, C23_1, C23_2⟩ := cz3_ BK298.out
 obtain ⟨F23_0, F23_1, F23_2⟩ := fz3_ BK298.out
 obtain ⟨C24_0, C24_1, C24_2⟩ := cz3_ BK299.out
 obtain ⟨F24_0, F24_1, F24_2⟩ := fz3_ BK299.out
 go_wp2
 go_meet
 case rel => exact ⟨_, _, (by first | rfl | (simp; done) | (simp [*]; done)), H', ⟨by first | omega | exact Nat.le_refl _⟩, ⟨by (with_reducible repeat (first | refine Ag ?_ _ | refine Af ?_ | refine Ae ?_ _)); exact BK298.out⟩, ⟨by (with_reducible repeat (first | refine Ag ?_ _ | refine Af ?_ | refine Ae ?_ _)); exact BK299.out⟩, ⟨by repeat (first | (with_reducible first | exact HB.out | apply Ak | apply Ah | apply Aj | refine Ao ?_ GE298.out | refine Ao ?_ GE299.out) | exact HB.out)⟩⟩))
 case rest =>(
 clear HC15
 try clear c3
 try clear c3b0
 try clear c3b1
 try clear c3b2
 try clear c4
 try clear c21
 try clear c21b0
 try clear c25
 try clear c25b0
 try clear c25b1
 try clear C13_0 C13_1 C13_2
 try clear C14_0 C14_1 C14_2
 try clear C19_0 C19_1 C19_2
 try clear C20_0 C20_1 C20_2
 try clear C23_0 C23_1 C23_2
 try clear C24_0 C24_1 C24_2
 try clear C27_0 C27_1 C27_2
 try clear C28_0 C28_1 C28_2
 try clear C30_0 C30_1 C30_2
 try clear C31_0 C31_1 C31_2
 try clear C8_0 C8_1 C8_2
 try clear C9_0 C9_1 C9_2
 try clear F13_0 F13_1 F13_2
 try clear F14_0 F14_1 F14_2
 try clear F19_0 F19_1 F19_2
 try clear F20_0 F20_1 F20_2
 try clear F23_0 F23_1 F23_2
 try clear F24_0 F24_1 F24_2
 try clear F27_0 F27_1 F27_2
 try clear F28_0 F28_1 F28_2
 try clear F30_0 F30_1 F30_2
 try clear F31_0 F31_1 F31_2
 try clear F8_0 F8_1 F8_2
 try clear F9_0 F9_1 F9_2
 obtain ⟨kq, x30_14, rfl, HA, HJ14, BK298, BK299, HB⟩ := hcut
 cases kq with
 | zero => exact absurd HA.out (by simp [Bb.j0])
 | succ kj14 =>(
 have H := HA.out
 clear HA
 simp only [Bb.j0] at H
 by_cases c32 : x30_14 = true
 ·(
 subst c32
 have H1 : (some (-1)) = some r := by rw [if_pos rfl] at H; exact H
 clear H
 have H := H1
 clear H1
 obtain rfl := Dp H
 go_wp2
 go_ret
 exact en_ HB)
 ·(
 replace c32 := Dq c32
 subst c32
 have H1 : (if a0_1 > a1_1 then (some 1) else (if (Op.bytesLess a0_2.toList a1_2.toList) = true then (some 0) else (if a0_2.toList = a1_2.toList then (some 0) else (some 1)))) = some r := by rw [if_neg (show ¬ (false = true) by decide)] at H; exact H
 clear H
 have H := H1
 clear H1
 by_cases c33 : a0_1 > a1_1
 rotate_left
 focus(
 rw [if_neg c33] at H
 have c33b0 : decide (a1_1 < a0_1) = false := decide_eq_false c33
 clear c33
 by_cases c37 : (Op.bytesLess a0_2.toList a1_2.toList) = true
 rotate_left
 focus(
 rw [if_neg c37] at H
 have c37b0 : (Op.bytesLess a0_2.toList a1_2.toList) = false := by simpa using c37
 clear c37
 by_cases c41 : a0_2.toList = a1_2.toList
 rotate_left
 focus(
 rw [if_neg c41] at H
 have c41b0 : (a0_2.toList == a1_2.toList) = false := Dj c41
 have c41b1 : (a0_2.toList != a1_2.toList) = true := Dm c41)
 rotate_right
 focus(
 rw [if_pos c41] at H
 have c41b0 : (a0_2.toList == a1_2.toList) = true := Dl c41
 have c41b1 : (a0_2.toList != a1_2.toList) = false := Dk c41
 clear c41))
 rotate_right
 focus(
 rw [if_pos c37] at H
 have c37b0 : (Op.bytesLess a0_2.toList a1_2.toList) = true := c37
 clear c37))
 rotate_right
 focus(
 rw [if_pos c33] at H
 have c33b0 : decide (a1_1 < a0_1) = true := decide_eq_true c33
 clear c33)
 all_goals(
 obtain rfl := Dp H
 have hnb34 := NB298_299.out
 have hnc34 := NB299_298.out
 obtain ⟨C35_0, C35_1, C35_2⟩ := cz3_ BK298.out
 obtain ⟨F35_0, F35_1, F35_2⟩ := fz3_ BK298.out
 obtain ⟨C36_0, C36_1, C36_2⟩ := cz3_ BK299.out
 obtain ⟨F36_0, F36_1, F36_2⟩ := fz3_ BK299.out
 go_wp2
 go_ret
 exact en_ HB)))))
theorem ord09 (a0 : Bool) (a1 : Int) (a2 : ByteArray) (b0 : Bool) (b1 : Int) (b2 : ByteArray) : TotP (fun r => r = ord a0 a1 a2 b0 b1 b2) (fun k => Bb.f k a0 a1 a2 b0 b1 b2) := by
 unfold Bb.f
 have j0 : ∀ t, (t = true → ord a0 a1 a2 b0 b1 b2 = -1) → (t = false → ord a0 a1 a2 b0 b1 b2 = if a1 > b1 then 1 else if Op.bytesLess a2.toList b2.toList = true then 0 else if a2.toList = b2.toList then 0 else 1) →
    TotP (fun r => r = ord a0 a1 a2 b0 b1 b2) (fun k => Bb.j0 k t a0 a1 a2 b0 b1 b2) := by
  intro t h1 h2
  refine TotP.succ (fun k => by simp only [Bb.j0]; rfl) ?_
  refine TotP.ite (fun h => TotP.some_ (h1 h).symm) (fun h => ?_)
  rw [h2 (Bool.eq_false_iff.2 h)]
  refine TotP.ite (fun g => TotP.some_ (by rw [if_pos g])) (fun g => ?_)
  rw [if_neg g]
  refine TotP.ite (fun g => TotP.some_ (by rw [if_pos g])) (fun g => ?_)
  rw [if_neg g]
  exact TotP.ite (fun g => TotP.some_ (by rw [if_pos g])) (fun g => TotP.some_ (by rw [if_neg g]))
 refine TotP.ite (fun hne => ?_) (fun hne => ?_)
 ·(
 refine TotP.ite (fun h => TotP.some_ ?_) (fun h => TotP.some_ ?_)
 ·cases a0 <;> cases b0 <;> simp_all [ord, flagI, cmpI]
 ·cases a0 <;> cases b0 <;> simp_all [ord, flagI, cmpI])
 ·(
 have he : a0 = b0 := by cases a0 <;> cases b0 <;> simp_all
 subst he
 have hz : cmpI (flagI a0) (flagI a0) = 0 := by unfold cmpI; rw [if_neg (by omega), if_neg (by omega)]
 refine TotP.ite (fun h => j0 true (fun _ => ?_) (fun h' => by cases h')) (fun h => ?_)
 ·(
 have : cmpI a1 b1 = -1 := by unfold cmpI; rw [if_pos h]
 simp [ord, hz, this])
 refine TotP.ite (fun h2 => j0 _ (fun h' => ?_) (fun h' => ?_)) (fun h2 => j0 false (fun h' => by cases h') (fun _ => ?_))
 ·(
 have : cmpI a1 b1 = 0 := by unfold cmpI; rw [if_neg (by omega), if_neg (by omega)]
 simp [ord, hz, this, cmpT, h'])
 ·(
 have : cmpI a1 b1 = 0 := by unfold cmpI; rw [if_neg (by omega), if_neg (by omega)]
 rw [if_neg (show ¬ a1 > b1 by omega)]
 by_cases g : a2.toList = b2.toList
 ·(
 rw [g] at h'
 simp [ord, hz, this, cmpT, h', g])
 ·simp [ord, hz, this, cmpT, h', g])
 ·(
 have : cmpI a1 b1 = 1 := by unfold cmpI; rw [if_neg (by omega), if_pos (by omega)]
 rw [if_pos (show a1 > b1 by omega)]
 simp [ord, hz, this]))
def emB (a : Bool) (b : Int) (c : ByteArray) : Bool := !a && (b == 0 && c.toList.isEmpty)
def cmB (ty : Int) (a : Bool) (b : Int) (c : ByteArray) : Bool := (Br.f ty false a b c).getD false
theorem cm_some (ty : Int) (a : Bool) (b : Int) (c : ByteArray) : Br.f ty false a b c = some (cmB ty a b c) := by
 obtain ⟨r, hr⟩ := cellMay_ans ty false a b c
 unfold cmB
 rw [hr]; rfl
def zmB (ty z0 z1 : Int) (z2 : Bool) (z3 : Int) (z4 : ByteArray) (z5 : Bool) (z6 : Int) (z7 : ByteArray) : Bool :=
  if (1 ≤ ty ∧ ty ≤ 3) ∧ (0 ≤ z0 ∧ z0 ≤ 4096) ∧ 0 ≤ z1 ∧ z1 ≤ z0 then (if z1 = z0 then emB z2 z3 z4 && emB z5 z6 z7 else cmB ty z2 z3 z4 && (cmB ty z5 z6 z7 && decide (ord z2 z3 z4 z5 z6 z7 ≤ 0))) else false
theorem zm (ty z0 z1 : Int) (z2 : Bool) (z3 : Int) (z4 : ByteArray) (z5 : Bool) (z6 : Int) (z7 : ByteArray) : TotP (fun r => r = zmB ty z0 z1 z2 z3 z4 z5 z6 z7) (fun k => Bu.f k ty z0 z1 z2 z3 z4 z5 z6 z7) := by
 have bad1 : ∀ t : Bool, t = true → ¬ ((1 ≤ ty ∧ ty ≤ 3) ∧ (0 ≤ z0 ∧ z0 ≤ 4096) ∧ 0 ≤ z1 ∧ z1 ≤ z0) → TotP (fun r => r = zmB ty z0 z1 z2 z3 z4 z5 z6 z7) (fun k => Bu.j1 k ty t z0 z1 z2 z3 z4 z5 z6 z7) := by(
 intro t ht hn
 refine TotP.succ (fun k => by simp only [Bu.j1]; rfl) ?_
 exact TotP.ite (fun _ => TotP.some_ (by unfold zmB; rw [if_neg hn])) (fun h => absurd ht h))
 have bad0 : ∀ t : Bool, t = true → ¬ ((1 ≤ ty ∧ ty ≤ 3) ∧ (0 ≤ z0 ∧ z0 ≤ 4096) ∧ 0 ≤ z1 ∧ z1 ≤ z0) → TotP (fun r => r = zmB ty z0 z1 z2 z3 z4 z5 z6 z7) (fun k => Bu.j0 k ty t z0 z1 z2 z3 z4 z5 z6 z7) := by(
 intro t ht hn
 refine TotP.succ (fun k => by simp only [Bu.j0]; rfl) ?_
 exact TotP.ite (fun _ => TotP.some_ (by unfold zmB; rw [if_neg hn])) (fun h => absurd ht h))
 unfold Bu.f
 refine TotP.ite (fun h => bad0 _ rfl (by omega)) (fun h1 => ?_)
 by_cases h2 : ty > 3
 ·exact bad0 _ (decide_eq_true h2) (by omega)
 refine TotP.succ (fun k => by simp only [Bu.j0]; rfl) ?_
 refine TotP.ite (fun h => absurd (of_decide_eq_true h) h2) (fun _ => ?_)
 refine TotP.ite (fun h => bad1 _ rfl (by omega)) (fun h3 => ?_)
 refine TotP.ite (fun h => bad1 _ rfl (by omega)) (fun h4 => ?_)
 refine TotP.ite (fun h => bad1 _ rfl (by omega)) (fun h5 => ?_)
 by_cases h6 : z1 > z0
 ·exact bad1 _ (decide_eq_true h6) (by omega)
 refine TotP.succ (fun k => by simp only [Bu.j1]; rfl) ?_
 refine TotP.ite (fun h => absurd (of_decide_eq_true h) h6) (fun _ => ?_)
 unfold zmB
 rw [if_pos (show (1 ≤ ty ∧ ty ≤ 3) ∧ (0 ≤ z0 ∧ z0 ≤ 4096) ∧ 0 ≤ z1 ∧ z1 ≤ z0 by omega)]
 refine TotP.bind (TotP.some_ (P := fun b => b = decide (z0 > z1)) rfl) (fun b hb => ?_)
 subst hb
 refine TotP.ite (fun g => ?_) (fun g => ?_)
 ·(
 have g := of_decide_eq_true g
 rw [if_neg (by omega), cm_some, cm_some]
 refine TotP.bind (TotP.some_ (P := fun b => b = cmB ty z2 z3 z4) rfl) (fun b hb => ?_)
 subst hb
 refine TotP.ite (fun g => ?_) (fun g => TotP.some_ (by rw [Bool.eq_false_iff.2 g]; rfl))
 refine TotP.bind (TotP.some_ (P := fun b => b = cmB ty z5 z6 z7) rfl) (fun b hb => ?_)
 subst hb
 refine TotP.ite (fun g' => ?_) (fun g' => TotP.some_ (by rw [g, Bool.eq_false_iff.2 g']; rfl))
 refine TotP.bind ⟨_, ord_ev z2 z3 z4 z5 z6 z7, rfl⟩ (P := fun o => o = ord z2 z3 z4 z5 z6 z7) (fun o ho => TotP.some_ ?_)
 rw [ho, g, g']; rfl)
 ·(
 have g : ¬ z0 > z1 := fun h => g (decide_eq_true h)
 rw [if_pos (by omega)]
 refine TotP.ite (fun g => TotP.some_ ?_) (fun g => TotP.some_ ?_)
 ·rw [show emB z2 z3 z4 = true from g]; rfl
 ·rw [show emB z2 z3 z4 = false from Bool.eq_false_iff.2 g]; rfl)
theorem bl_irrefl : ∀ (x : List UInt8), Op.bytesLess x x = false
  | [] => rfl
  | a :: x => by simp [Op.bytesLess, bl_irrefl x]
theorem bl_asym : ∀ (x y : List UInt8), Op.bytesLess x y = true → Op.bytesLess y x = false
  | [], [], h => by simp [Op.bytesLess] at h
  | [], b :: y, _ => by simp [Op.bytesLess]
  | a :: x, [], h => by simp [Op.bytesLess] at h
  | a :: x, b :: y, h => by
    by_cases h1 : a < b
    · have h2 : ¬ b < a := fun h => by simp only [UInt8.lt_iff_toNat_lt] at *; omega
      have h3 : ¬ b = a := fun e => by subst e; simp at h1
      simp [Op.bytesLess, h2, h3]
    · by_cases h2 : b < a
      · have h3 : ¬ a = b := fun e => by subst e; simp at h2
        simp [Op.bytesLess, h1, h3] at h
      · have e : a = b := UInt8.toNat_inj.1 (by simp only [UInt8.lt_iff_toNat_lt] at *; omega)
        subst e
        have := bl_asym x y (by simpa [Op.bytesLess] using h)
        simp [Op.bytesLess, this]
theorem bl_total : ∀ (x y : List UInt8), Op.bytesLess x y = false → Op.bytesLess y x = false → x = y
  | [], [], _, _ => rfl
  | [], b :: y, h, _ => by simp [Op.bytesLess] at h
  | a :: x, [], _, h => by simp [Op.bytesLess] at h
  | a :: x, b :: y, h, h' => by
    by_cases h1 : a < b
    · simp [Op.bytesLess, h1] at h
    · by_cases h2 : b < a
      · simp [Op.bytesLess, h2] at h'
      · have e : a = b := UInt8.toNat_inj.1 (by simp only [UInt8.lt_iff_toNat_lt] at *; omega)
        subst e
        rw [bl_total x y (by simpa [Op.bytesLess] using h) (by simpa [Op.bytesLess] using h')]
theorem cmpT_neg (a b : ByteArray) : cmpT b a = - cmpT a b := by
 unfold cmpT
 cases h : Op.bytesLess a.toList b.toList with
 | true =>(
 have h1 := bl_asym _ _ h
 have h2 : ¬ b.toList = a.toList := fun e => by rw [e, bl_irrefl] at h; cases h
 simp [h1, h2])
 | false =>(
 cases h' : Op.bytesLess b.toList a.toList with
 | true =>(
 have h2 : ¬ a.toList = b.toList := fun e => by rw [e, bl_irrefl] at h'; cases h'
 simp [h2])
 | false =>(
 have e := bl_total _ _ h h'
 simp [e]))
theorem cmpI_neg (a b : Int) : cmpI b a = - cmpI a b := by unfold cmpI; repeat' split <;> omega
theorem ord_neg (a0 : Bool) (a1 : Int) (a2 : ByteArray) (b0 : Bool) (b1 : Int) (b2 : ByteArray) : ord b0 b1 b2 a0 a1 a2 = - ord a0 a1 a2 b0 b1 b2 := by
 unfold ord
 rw [cmpI_neg (flagI a0) (flagI b0), cmpI_neg a1 b1, cmpT_neg a2 b2]
 repeat' split <;> omega
theorem ord_zero (a0 : Bool) (a1 : Int) (a2 : ByteArray) (b0 : Bool) (b1 : Int) (b2 : ByteArray) : ord a0 a1 a2 b0 b1 b2 = 0 ↔ a0 = b0 ∧ a1 = b1 ∧ a2.toList = b2.toList := by
 have hI : ∀ x y : Int, cmpI x y = 0 ↔ x = y := fun x y => by unfold cmpI; repeat' split <;> omega
 have hT : cmpT a2 b2 = 0 ↔ a2.toList = b2.toList := by(
 unfold cmpT
 cases h : Op.bytesLess a2.toList b2.toList with
 | true =>(
 have h2 : ¬ a2.toList = b2.toList := fun e => by rw [e, bl_irrefl] at h; cases h
 simp [h2])
 | false => by_cases e : a2.toList = b2.toList <;> simp [e])
 have hF : flagI a0 = flagI b0 ↔ a0 = b0 := by cases a0 <;> cases b0 <;> decide
 unfold ord
 by_cases h1 : cmpI (flagI a0) (flagI b0) = 0
 ·(
 rw [if_pos h1]
 have e1 := hF.1 ((hI _ _).1 h1)
 by_cases h2 : cmpI a1 b1 = 0
 ·(
 rw [if_pos h2, hT]
 exact ⟨fun h => ⟨e1, (hI _ _).1 h2, h⟩, fun h => h.2.2⟩)
 ·(
 rw [if_neg h2]
 exact ⟨fun h => absurd h h2, fun h => absurd ((hI _ _).2 h.2.1) h2⟩))
 ·(
 rw [if_neg h1]
 exact ⟨fun h => absurd h h1, fun h => absurd ((hI _ _).2 (hF.2 h.1)) h1⟩)
def yB (op a b : Int) : Bool :=
  if op = 1 then decide (a ≤ 0) && decide (0 ≤ b) else if op = 2 then a != 0 || b != 0 else if op = 3 then decide (a < 0) else if op = 4 then decide (a ≤ 0) else if op = 5 then decide (0 < b) else decide (0 ≤ b)
theorem ordP (a0 : Bool) (a1 : Int) (a2 : ByteArray) (b0 : Bool) (b1 : Int) (b2 : ByteArray) : TotP (fun r => r = ord a0 a1 a2 b0 b1 b2) (fun k => Bl.f k a0 a1 a2 b0 b1 b2) := ⟨_, ord_ev _ _ _ _ _ _, rfl⟩
theorem can21 (z0 z1 : Int) (hz : z0 > z1) (a0 : Bool) (a1 : Int) (a2 : ByteArray) (b0 : Bool) (b1 : Int) (b2 : ByteArray) (op : Int) (v1 : Int) (v2 : ByteArray) :
    TotP (fun r => r = yB op (ord a0 a1 a2 false v1 v2) (ord b0 b1 b2 false v1 v2)) (fun k => Cr.f k z0 z1 a0 a1 a2 b0 b1 b2 op false v1 v2) := by
 unfold Cr.f yB
 refine TotP.ite (fun h => ?_) (fun h => ?_)
 ·(
 rw [if_pos h]
 refine TotP.bind (P := fun r => r = (decide (ord a0 a1 a2 false v1 v2 ≤ 0) && decide (0 ≤ ord b0 b1 b2 false v1 v2))) ?_ (fun r hr => TotP.some_ hr)
 unfold De.f
 refine TotP.ite (fun h => by cases h) (fun _ => ?_)
 refine TotP.bind (TotP.some_ (P := fun b => b = decide (z0 > z1)) rfl) (fun b hb => ?_)
 refine TotP.ite (fun _ => ?_) (fun h => absurd (hb.trans (decide_eq_true hz)) h)
 refine TotP.bind (ordP _ _ _ _ _ _) (fun a ha => ?_)
 rw [ord_neg] at ha
 refine TotP.ite (fun g => ?_) (fun g => TotP.some_ (by rw [decide_eq_false (show ¬ ord a0 a1 a2 false v1 v2 ≤ 0 by omega)]; rfl))
 refine TotP.bind (ordP _ _ _ _ _ _) (fun b hb => TotP.some_ ?_)
 rw [ord_neg] at hb
 rw [decide_eq_true (show ord a0 a1 a2 false v1 v2 ≤ 0 by omega), Bool.true_and]
 exact decide_eq_decide.2 (by omega))
 rw [if_neg h]
 refine TotP.ite (fun h => ?_) (fun h => ?_)
 ·(
 rw [if_pos h]
 have ha := ord_zero a0 a1 a2 false v1 v2
 have hb := ord_zero b0 b1 b2 false v1 v2
 generalize ord a0 a1 a2 false v1 v2 = x at ha
 generalize ord b0 b1 b2 false v1 v2 = y at hb
 refine TotP.ite (fun g => TotP.some_ ?_) (fun g => TotP.some_ ?_)
 ·(
 have : x ≠ 0 := fun e => by(
 obtain ⟨e1, e2, e3⟩ := ha.1 e
 simp [e1, e2, e3] at g)
 simp [this])
 ·(
 have : x = 0 := ha.2 (by simpa [and_assoc] using g)
 have e : (y != 0) = !(decide (b0 = false ∧ b1 = v1 ∧ b2.toList = v2.toList)) := by(
 by_cases q : y = 0
 ·rw [decide_eq_true (hb.1 q)]; simp [q]
 ·rw [decide_eq_false (fun q' => q (hb.2 q'))]; simp [q])
 rw [e, this]
 cases b0 <;> by_cases q1 : b1 = v1 <;> by_cases q2 : b2.toList = v2.toList <;> simp [q1, q2]))
 rw [if_neg h]
 refine TotP.ite (fun h => ?_) (fun h => ?_)
 ·(
 rw [if_pos h]
 exact TotP.bind (ordP _ _ _ _ _ _) (fun a ha => TotP.some_ (by rw [ha])))
 rw [if_neg h]
 refine TotP.ite (fun h => ?_) (fun h => ?_)
 ·(
 rw [if_pos h]
 exact TotP.bind (ordP _ _ _ _ _ _) (fun a ha => TotP.some_ (by rw [ha])))
 rw [if_neg h]
 refine TotP.ite (fun h => ?_) (fun h => ?_)
 ·(
 rw [if_pos h]
 exact TotP.bind (ordP _ _ _ _ _ _) (fun a ha => TotP.some_ (by rw [ha])))
 rw [if_neg h]
 exact TotP.bind (ordP _ _ _ _ _ _) (fun a ha => TotP.some_ (by rw [ha]))
def back (c : Int) : Int := if c = 1 then 2 else if c = 2 then 1 else if c = 3 then 6 else if c = 4 then 5 else if c = 5 then 4 else 3
theorem opp_f (c : Int) : Cw.f c = some (back c) := by
 unfold Cw.f back
 repeat' (first | rfl | split)
def leafR (z : S33) (x : S27) : Bool × Bool × Bool :=
  if x.f0 = 1 then (true, false, false)
  else if x.f0 = 3 then (decide (z.f1 > 0), decide (z.f0 > z.f1), false)
  else if x.f0 = 2 then (decide (z.f0 > z.f1) && yB x.f2 (ord z.f2.f0 z.f2.f1 z.f2.f2 x.f3.f0 x.f3.f1 x.f3.f2) (ord z.f3.f0 z.f3.f1 z.f3.f2 x.f3.f0 x.f3.f1 x.f3.f2),
    decide (z.f0 > z.f1) && yB (back x.f2) (ord z.f2.f0 z.f2.f1 z.f2.f2 x.f3.f0 x.f3.f1 x.f3.f2) (ord z.f3.f0 z.f3.f1 z.f3.f2 x.f3.f0 x.f3.f1 x.f3.f2), decide (z.f1 > 0))
  else (decide (z.f0 > z.f1), decide (z.f0 > z.f1), decide (z.f1 > 0))
def zoneP (l : List S64) (zs : List S33) (x : S27) : S33 := Au zs (idxOf (fun y : S64 => y.f0.toList == x.f1.toList) l)
def askR (l : List S64) (zs : List S33) : Nat → S27 → Bool × Bool × Bool
  | 0, _ => (false, false, false)
  | d + 1, x =>
    if x.f0 = 5 then ((askR l zs d (Al x.f6 0)).2.1, (askR l zs d (Al x.f6 0)).1, (askR l zs d (Al x.f6 0)).2.2)
    else if x.f0 = 6 then (x.f6.all (fun y => (askR l zs d y).1), x.f6.any (fun y => (askR l zs d y).2.1), x.f6.any (fun y => (askR l zs d y).2.2))
    else if x.f0 = 7 then (x.f6.any (fun y => (askR l zs d y).1), x.f6.all (fun y => (askR l zs d y).2.1), x.f6.any (fun y => (askR l zs d y).2.2))
    else leafR (zoneP l zs x) x
theorem val_in (x : S27) (hf : fieldsB x = true) (h2 : x.f0 = 2) : (1 ≤ x.f2 ∧ x.f2 ≤ 6) ∧ x.f3.f0 = false := by
 rw [fieldsB_eq, Bool.and_eq_true] at hf
 have h := hf.2
 unfold opB at h
 rw [if_neg (by omega), if_pos h2] at h
 simp only [Bool.and_eq_true, decide_eq_true_eq] at h
 refine ⟨⟨h.2.1, h.2.2.1⟩, ?_⟩
 have hm := h.2.2.2
 cases hb : x.f3.f0 with
 | false => rfl
 | true =>(
 rw [hb] at hm
 simp [Br.f] at hm)
theorem simpleR (l : List S64) (zs : List S33) (hz : zs.length = l.length) (x : S27) (hf : fieldsB x = true) (ht : typedB l x = true) (h5 : x.f0 ≠ 5) (h6 : x.f0 ≠ 6) (h7 : x.f0 ≠ 7) :
    TotP (fun r => r = leafR (zoneP l zs x) x) (fun k => Bh.f k l zs x.f0 x.f1 x.f2 x.f3.f0 x.f3.f1 x.f3.f2 x.f4 x.f5 x.f6) := by
 unfold Bh.f
 refine TotP.ite (fun h1 => TotP.some_ (by unfold leafR; rw [if_pos h1])) (fun h1 => ?_)
 have hn : nameB x.f1 = true := by(
 rcases fields_cases x hf with h | h | h
 ·exact absurd h h1
 ·exact h.2
 ·rcases h with h | h | h <;> simp_all)
 have hi := typed_found l x ht (name_ne _ hn)
 have hl := idxOf_lt (fun y : S64 => y.f0.toList == x.f1.toList) l
 have hv := val_in x hf
 unfold zoneP
 simp only [Bw.f, Option.bind_some]
 generalize idxOf (fun y : S64 => y.f0.toList == x.f1.toList) l = q at hi hl ⊢
 have hq : mx q 0 = q := by unfold mx; split <;> omega
 rw [hq]
 generalize Au zs q = z
 refine TotP.ite (fun _ => ?_) (fun h => absurd hi h)
 refine TotP.ite (fun _ => ?_) (fun h => absurd (by omega) h)
 refine TotP.ite (fun h3 => TotP.some_ (by unfold leafR; rw [if_neg h1, if_pos h3])) (fun h3 => ?_)
 refine TotP.ite (fun h2 => ?_) (fun h2 => TotP.some_ (by unfold leafR; rw [if_neg h1, if_neg h3, if_neg h2]))
 have hv := (hv h2).2
 refine TotP.ite (fun g => ?_) (fun g => TotP.some_ ?_)
 ·(
 rw [hv]
 refine TotP.bind (can21 _ _ g _ _ _ _ _ _ _ _ _) (fun a ha => ?_)
 simp only [opp_f, Option.bind_some]
 refine TotP.bind (can21 _ _ g _ _ _ _ _ _ _ _ _) (fun b hb => TotP.some_ ?_)
 unfold leafR
 rw [if_neg h1, if_neg h3, if_pos h2, hv, decide_eq_true g, Bool.true_and, Bool.true_and, ha, hb])
 ·(
 unfold leafR
 rw [if_neg h1, if_neg h3, if_pos h2, decide_eq_false g]
 rfl)
theorem and_f (a b c d e f : Bool) : Co.f a b c d e f = some (a && d, b || e, c || f) := by
 cases a <;> cases b <;> cases c <;> cases d <;> cases e <;> cases f <;> rfl
theorem not_f (a b c : Bool) : Cl.f a b c = some (b, a, c) := rfl
theorem rd27_get (l : List S27) (i : Nat) (h : i < l.length) : Al l (i : Int) = l[i] := by
 simp only [Al, Int.toNat_natCast, List.getD_eq_getElem?_getD, List.getElem?_eq_getElem h, Option.getD_some]
theorem askR_l0 (l : List S64) (zs : List S33) (kids : List S27) (g : S27 → Bool × Bool × Bool) (hk : kids.length ≤ 9223372036854775806)
    (h : ∀ y, y ∈ kids → TotP (fun r => r = g y) (fun k => Av.f k l zs y.f0 y.f1 y.f2 y.f3.f0 y.f3.f1 y.f3.f2 y.f4 y.f5 y.f6)) :
    ∀ (n i : Nat) (a b c : Bool), i + n = kids.length → TotP (fun r => r = (a && (kids.drop i).all (fun y => (g y).1), b || (kids.drop i).any (fun y => (g y).2.1), c || (kids.drop i).any (fun y => (g y).2.2)))
      (fun k => Av.l0 k kids (kids.length : Int) (i : Int) l zs a b c) := by
  intro n
  induction n with
  | zero =>
    intro i a b c hi
    refine TotP.succ (f := fun _ => some (a, b, c)) (fun k => ?_) (TotP.some_ ?_)
    · simp only [Av.l0]
      rw [if_neg (by omega)]
    · rw [List.drop_of_length_le (by omega)]; simp
  | succ n ih =>
    intro i a b c hi
    refine TotP.succ (fun k => by simp only [Av.l0]; rfl) ?_
    refine TotP.ite (fun _ => ?_) (fun h' => absurd (by omega) h')
    refine TotP.ite (fun _ => ?_) (fun h' => absurd (by omega) h')
    refine TotP.ite (fun _ => ?_) (fun h' => absurd (by omega) h')
    refine TotP.bind (h _ (rd27_mem kids i (by omega))) (fun t ht => ?_)
    simp only [and_f, Option.bind_some]
    rw [wrap_in (by omega) (by omega), show (i : Int) + 1 = ((i + 1 : Nat) : Int) by omega]
    refine (ih (i + 1) _ _ _ (by omega)).weak (fun r hr => ?_)
    rw [hr, List.drop_eq_getElem_cons (show i < kids.length by omega), ht, rd27_get kids i (by omega)]
    simp only [List.all_cons, List.any_cons, Bool.and_assoc, Bool.or_assoc]
theorem askR_l1 (l : List S64) (zs : List S33) (kids : List S27) (g : S27 → Bool × Bool × Bool) (hk : kids.length ≤ 9223372036854775806)
    (h : ∀ y, y ∈ kids → TotP (fun r => r = g y) (fun k => Av.f k l zs y.f0 y.f1 y.f2 y.f3.f0 y.f3.f1 y.f3.f2 y.f4 y.f5 y.f6)) :
    ∀ (n i : Nat) (a b c : Bool), i + n = kids.length → TotP (fun r => r = (b || (kids.drop i).any (fun y => (g y).1), a && (kids.drop i).all (fun y => (g y).2.1), c || (kids.drop i).any (fun y => (g y).2.2)))
      (fun k => Av.l1 k kids (kids.length : Int) (i : Int) l zs a b c) := by
  intro n
  induction n with
  | zero =>
    intro i a b c hi
    refine TotP.succ (f := fun _ => some (b, a, c)) (fun k => ?_) (TotP.some_ ?_)
    · simp only [Av.l1]
      rw [if_neg (by omega)]
      simp only [not_f, Option.bind_some]
    · rw [List.drop_of_length_le (by omega)]; simp
  | succ n ih =>
    intro i a b c hi
    refine TotP.succ (fun k => by simp only [Av.l1]; rfl) ?_
    refine TotP.ite (fun _ => ?_) (fun h' => absurd (by omega) h')
    refine TotP.ite (fun _ => ?_) (fun h' => absurd (by omega) h')
    refine TotP.ite (fun _ => ?_) (fun h' => absurd (by omega) h')
    refine TotP.bind (h _ (rd27_mem kids i (by omega))) (fun t ht => ?_)
    simp only [not_f, and_f, Option.bind_some]
    rw [wrap_in (by omega) (by omega), show (i : Int) + 1 = ((i + 1 : Nat) : Int) by omega]
    refine (ih (i + 1) _ _ _ (by omega)).weak (fun r hr => ?_)
    rw [hr, List.drop_eq_getElem_cons (show i < kids.length by omega), ht, rd27_get kids i (by omega)]
    simp only [List.all_cons, List.any_cons, Bool.and_assoc, Bool.or_assoc]
theorem askR_tot (l : List S64) (zs : List S33) (hz : zs.length = l.length) : ∀ (d : Nat) (x : S27), Lens d x → Good mayStep d x → Good (typedStep l) d x →
    TotP (fun r => r = askR l zs d x) (fun k => Av.f k l zs x.f0 x.f1 x.f2 x.f3.f0 x.f3.f1 x.f3.f2 x.f4 x.f5 x.f6) := by
 intro d
 induction d with
 | zero => intro x _ h _; obtain ⟨e, h, _⟩ := h.step; omega
 | succ d ih =>(
 intro x hl hm ht
 obtain ⟨e, he, ⟨s, hs⟩, hmk⟩ := hm.step
 obtain ⟨e', he', ⟨s', hs'⟩, htk⟩ := ht.step
 have he1 : e = d := by omega
 have he2 : e' = d := by omega
 rw [he1] at hmk
 rw [he2] at htk
 have hlen : x.f6.length ≤ 9223372036854775806 := hl.1
 have hk : ∀ y, y ∈ x.f6 → TotP (fun r => r = askR l zs d y) (fun k => Av.f k l zs y.f0 y.f1 y.f2 y.f3.f0 y.f3.f1 y.f3.f2 y.f4 y.f5 y.f6) := fun y hy => ih y (hl.2 y hy) (hmk y hy) (htk y hy)
 simp only [mayStep, Bool.and_eq_true] at hs
 have hty : typedB l x = true := hs'
 refine TotP.succ (fun k => by simp only [Av.f]; rfl) ?_
 refine TotP.ite (fun h5 => ?_) (fun h5 => ?_)
 ·(
 have h1 := kids_len x.f0 x.f6 hs.2.2 h5
 refine TotP.ite (fun _ => ?_) (fun h' => absurd (by omega) h')
 refine TotP.bind (hk _ (rd27_mem x.f6 0 (by omega))) (fun t ht => ?_)
 simp only [not_f, Option.bind_some]
 refine TotP.some_ ?_
 rw [askR, if_pos h5, ht])
 ·(
 refine TotP.ite (fun h6 => ?_) (fun h6 => ?_)
 ·(
 refine (askR_l0 l zs x.f6 (askR l zs d) hlen hk x.f6.length 0 true false false (by omega)).weak (fun r hr => ?_)
 rw [askR, if_neg h5, if_pos h6, hr]
 simp)
 ·(
 refine TotP.ite (fun h7 => ?_) (fun h7 => ?_)
 ·(
 refine (askR_l1 l zs x.f6 (askR l zs d) hlen hk x.f6.length 0 true false false (by omega)).weak (fun r hr => ?_)
 rw [askR, if_neg h5, if_neg h6, if_pos h7, hr]
 simp)
 ·(
 refine TotP.bind (simpleR l zs hz x hs.2.1 hty h5 h6 h7) (fun t ht => TotP.some_ ?_)
 rw [askR, if_neg h5, if_neg h6, if_neg h7, ht]))))
end Go.Proofs.Ytdedmhmomoejkaa.X
