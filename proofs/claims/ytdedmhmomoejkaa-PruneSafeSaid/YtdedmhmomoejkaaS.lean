/- Proved: X.pruneSafe_holds : Rows.PruneSafeSaid. -/
import Derived.Test.YtdedmhmomoejkaaS1
import Derived.Test.YtdedmhmomoejkaaS6
import Derived.Test.YtdedmhmomoejkaaS7
import Derived.Test.YtdedmhmomoejkaaS12
import Derived.Test.YtdedmhmomoejkaaS13
import Derived.Test.YtdedmhmomoejkaaS14
import Derived.Test.YtdedmhmomoejkaaRows
import Derived.WalkKit
import Derived.OpenShut
import Derived.ShutString
import Derived.ChangeOld
import Derived.Below
import Derived.SizedLaws
namespace Go.Proofs.Ytdedmhmomoejkaa.X
open Go.RowKit Go.Proofs.YtdedmhmomoejkaaW.PrintWords Go.Proofs.YtdedmhmomoejkaaW.PrintLast Go.Proofs.YtdedmhmomoejkaaW.PrintMore
attribute [local go_sem] max2_int max_two
set_option linter.unusedVariables false
set_option linter.unusedSimpArgs false
mutual
def Ac.j0 : Nat → List (S64) → List (List (S24)) → Bool → Int → ByteArray → Int → Bool → Int → ByteArray → Int → ByteArray → List (S27) → Option (Bool)
 | 0, _, _, _, _, _, _, _, _, _, _, _, _ => none
 | k + 1, x0, x2, x23, x432000, x432001, x432002, x432003, x432004, x432005, x432006, x432007, x432008 => if x23 = true then ((Bn.f k).bind fun t434 => (some t434)) else ((Ba.f k x0 x432000 x432001 x432002 x432003 x432004 x432005 x432006 x432007 x432008 x2).bind fun bt435 => (if bt435.2 = 0 then (Ac.l0 k x0 x2 bt435.1 (([] : List (S33))) 0 x432000 x432001 x432002 x432003 x432004 x432005 x432006 x432007 x432008) else ((Bn.f k).bind fun t439 => (some t439))))
def Ac.l0 : Nat → List (S64) → List (List (S24)) → List Int → List (S33) → Int → Int → ByteArray → Int → Bool → Int → ByteArray → Int → ByteArray → List (S27) → Option (Bool)
 | 0, _, _, _, _, _, _, _, _, _, _, _, _, _, _ => none
 | k + 1, x0, x2, x7, x9, x10, x432000, x432001, x432002, x432003, x432004, x432005, x432006, x432007, x432008 => if x10 < (x0.length : Int) then ((Bi.f k x2 x10).bind fun t443 => ((Am.f k t443).bind fun bt446 => (if x9.length < 1759218604441 then (Ac.l0 k x0 x2 x7 (x9 ++ [(⟨bt446.1, bt446.2.1, (⟨bt446.2.2.1, bt446.2.2.2.1, bt446.2.2.2.2.1⟩ : S24), (⟨bt446.2.2.2.2.2.1, bt446.2.2.2.2.2.2.1, bt446.2.2.2.2.2.2.2⟩ : S24)⟩ : S33)]) (wrap64 (x10 + 1)) x432000 x432001 x432002 x432003 x432004 x432005 x432006 x432007 x432008) else (none)))) else ((Bo.f k x0 x432000 x432001 x432002 x432003 x432004 x432005 x432006 x432007 x432008 x9).bind fun bt457 => ((Ch.f bt457.2.2.2).bind fun t462 => (if t462 = 0 then (Ac.l1 k x0 x2 x7 x9 0 x432000 x432001 x432002 x432003 x432004 x432005 x432006 x432007 x432008 bt457.1 bt457.2.1 bt457.2.2.1) else (some false))))
def Ac.l1 : Nat → List (S64) → List (List (S24)) → List Int → List (S33) → Int → Int → ByteArray → Int → Bool → Int → ByteArray → Int → ByteArray → List (S27) → Bool → Bool → Bool → Option (Bool)
 | 0, _, _, _, _, _, _, _, _, _, _, _, _, _, _, _, _, _ => none
 | k + 1, x0, x2, x7, x9, x13, x432000, x432001, x432002, x432003, x432004, x432005, x432006, x432007, x432008, x462000, x462001, x462002 => if x13 < (x2.length : Int) then (if 0 ≤ x13 then ((Ad.f k x0 x432000 x432001 x432002 x432003 x432004 x432005 x432006 x432007 x432008 (rd_L8 x2 x13)).bind fun t464 => (if t464 = 1 then (if x462000 = true then (if t464 = 0 then (if x462001 = true then (if t464 = 2 then (if x462002 = true then (Ac.l1 k x0 x2 x7 x9 (wrap64 (x13 + 1)) x432000 x432001 x432002 x432003 x432004 x432005 x432006 x432007 x432008 x462000 x462001 x462002) else (some false)) else (Ac.l1 k x0 x2 x7 x9 (wrap64 (x13 + 1)) x432000 x432001 x432002 x432003 x432004 x432005 x432006 x432007 x432008 x462000 x462001 x462002)) else (some false)) else (if t464 = 2 then (if x462002 = true then (Ac.l1 k x0 x2 x7 x9 (wrap64 (x13 + 1)) x432000 x432001 x432002 x432003 x432004 x432005 x432006 x432007 x432008 x462000 x462001 x462002) else (some false)) else (Ac.l1 k x0 x2 x7 x9 (wrap64 (x13 + 1)) x432000 x432001 x432002 x432003 x432004 x432005 x432006 x432007 x432008 x462000 x462001 x462002))) else (some false)) else (if t464 = 0 then (if x462001 = true then (if t464 = 2 then (if x462002 = true then (Ac.l1 k x0 x2 x7 x9 (wrap64 (x13 + 1)) x432000 x432001 x432002 x432003 x432004 x432005 x432006 x432007 x432008 x462000 x462001 x462002) else (some false)) else (Ac.l1 k x0 x2 x7 x9 (wrap64 (x13 + 1)) x432000 x432001 x432002 x432003 x432004 x432005 x432006 x432007 x432008 x462000 x462001 x462002)) else (some false)) else (if t464 = 2 then (if x462002 = true then (Ac.l1 k x0 x2 x7 x9 (wrap64 (x13 + 1)) x432000 x432001 x432002 x432003 x432004 x432005 x432006 x432007 x432008 x462000 x462001 x462002) else (some false)) else (Ac.l1 k x0 x2 x7 x9 (wrap64 (x13 + 1)) x432000 x432001 x432002 x432003 x432004 x432005 x432006 x432007 x432008 x462000 x462001 x462002))))) else (none)) else ((Ci.f k x0 x432000 x432001 x432002 x432003 x432004 x432005 x432006 x432007 x432008 x9).bind fun t465 => (if t465 = true then (if (x7.length : Int) = 0 then ((Bn.f k).bind fun t466 => (some t466)) else (some false)) else ((Bn.f k).bind fun t467 => (some t467))))
end
def Ac.f (k : Nat) (l0 : List (S64)) (a1_0 : Int) (a1_1 : ByteArray) (a1_2 : Int) (a1_3 : Bool) (a1_4 : Int) (a1_5 : ByteArray) (a1_6 : Int) (a1_7 : ByteArray) (l1_8 : List (S27)) (l2 : List (List (S24))) : Option (Bool) := (Bc.f k l0 l2).bind fun t432 => (if t432 = true then ((At.f k a1_0 a1_1 a1_2 a1_3 a1_4 a1_5 a1_6 a1_7 l1_8 9).bind fun t433 => (Ac.j0 k l0 l2 (!t433) a1_0 a1_1 a1_2 a1_3 a1_4 a1_5 a1_6 a1_7 l1_8)) else (Ac.j0 k l0 l2 true a1_0 a1_1 a1_2 a1_3 a1_4 a1_5 a1_6 a1_7 l1_8))
theorem Ac.mono_l : ∀ k, (∀ y0 y1 y2 y3 y4 y5 y6 y7 y8 y9 y10 y11, LeO (Ac.j0 k y0 y1 y2 y3 y4 y5 y6 y7 y8 y9 y10 y11) (Ac.j0 (k + 1) y0 y1 y2 y3 y4 y5 y6 y7 y8 y9 y10 y11)) ∧ (∀ y0 y1 y2 y3 y4 y5 y6 y7 y8 y9 y10 y11 y12 y13, LeO (Ac.l0 k y0 y1 y2 y3 y4 y5 y6 y7 y8 y9 y10 y11 y12 y13) (Ac.l0 (k + 1) y0 y1 y2 y3 y4 y5 y6 y7 y8 y9 y10 y11 y12 y13)) ∧ (∀ y0 y1 y2 y3 y4 y5 y6 y7 y8 y9 y10 y11 y12 y13 y14 y15 y16, LeO (Ac.l1 k y0 y1 y2 y3 y4 y5 y6 y7 y8 y9 y10 y11 y12 y13 y14 y15 y16) (Ac.l1 (k + 1) y0 y1 y2 y3 y4 y5 y6 y7 y8 y9 y10 y11 y12 y13 y14 y15 y16))
 | 0 => ⟨fun _ _ _ _ _ _ _ _ _ _ _ _ r h => by simp [Ac.j0] at h, fun _ _ _ _ _ _ _ _ _ _ _ _ _ _ r h => by simp [Ac.l0] at h, fun _ _ _ _ _ _ _ _ _ _ _ _ _ _ _ _ _ r h => by simp [Ac.l1] at h⟩
 | k + 1 => by
  obtain ⟨ih0, ih1, ih2⟩ := Ac.mono_l k
  refine ⟨?_, ?_, ?_⟩
  focus intro y0 y1 y2 y3 y4 y5 y6 y7 y8 y9 y10 y11;unfold Ac.j0
  rotate_left
  focus intro y0 y1 y2 y3 y4 y5 y6 y7 y8 y9 y10 y11 y12 y13;unfold Ac.l0
  rotate_left
  focus intro y0 y1 y2 y3 y4 y5 y6 y7 y8 y9 y10 y11 y12 y13 y14 y15 y16;unfold Ac.l1
  rotate_left
  all_goals repeat' first|(with_reducible first|exact ih0 _ _ _ _ _ _ _ _ _ _ _ _|exact ih1 _ _ _ _ _ _ _ _ _ _ _ _ _ _|exact ih2 _ _ _ _ _ _ _ _ _ _ _ _ _ _ _ _ _|exact Bc.mono _ _ _|exact Bn.mono _|exact Am.mono _ _|exact Bi.mono _ _ _|exact At.mono _ _ _ _ _ _ _ _ _ _ _|exact Ba.mono _ _ _ _ _ _ _ _ _ _ _ _|exact Ad.mono _ _ _ _ _ _ _ _ _ _ _ _|exact Bo.mono _ _ _ _ _ _ _ _ _ _ _ _|exact Ci.mono _ _ _ _ _ _ _ _ _ _ _ _|exact LeO.refl _|exact LeO.none _|refine LeO.ite ?_ ?_|refine LeO.bind ?_ fun _=>?_)|exact ih0 _ _ _ _ _ _ _ _ _ _ _ _|exact ih1 _ _ _ _ _ _ _ _ _ _ _ _ _ _|exact ih2 _ _ _ _ _ _ _ _ _ _ _ _ _ _ _ _ _|exact Bc.mono _ _ _|exact Bn.mono _|exact Am.mono _ _|exact Bi.mono _ _ _|exact At.mono _ _ _ _ _ _ _ _ _ _ _|exact Ba.mono _ _ _ _ _ _ _ _ _ _ _ _|exact Ad.mono _ _ _ _ _ _ _ _ _ _ _ _|exact Bo.mono _ _ _ _ _ _ _ _ _ _ _ _|exact Ci.mono _ _ _ _ _ _ _ _ _ _ _ _|exact LeO.none _|refine LeO.ite ?_ ?_|refine LeO.bind ?_ fun _=>?_
theorem Ac.mono : ∀ a0 a1 a2 a3 a4 a5 a6 a7 a8 a9 a10 k, LeO (Ac.f k a0 a1 a2 a3 a4 a5 a6 a7 a8 a9 a10) (Ac.f (k + 1) a0 a1 a2 a3 a4 a5 a6 a7 a8 a9 a10) := by
 intro a0 a1 a2 a3 a4 a5 a6 a7 a8 a9 a10 k
 obtain ⟨ih0, ih1, ih2⟩ := Ac.mono_l k
 unfold Ac.f
 repeat' first|(with_reducible first|exact ih0 _ _ _ _ _ _ _ _ _ _ _ _|exact ih1 _ _ _ _ _ _ _ _ _ _ _ _ _ _|exact ih2 _ _ _ _ _ _ _ _ _ _ _ _ _ _ _ _ _|exact Bc.mono _ _ _|exact Bn.mono _|exact Am.mono _ _|exact Bi.mono _ _ _|exact At.mono _ _ _ _ _ _ _ _ _ _ _|exact Ba.mono _ _ _ _ _ _ _ _ _ _ _ _|exact Ad.mono _ _ _ _ _ _ _ _ _ _ _ _|exact Bo.mono _ _ _ _ _ _ _ _ _ _ _ _|exact Ci.mono _ _ _ _ _ _ _ _ _ _ _ _|exact LeO.refl _|exact LeO.none _|refine LeO.ite ?_ ?_|refine LeO.bind ?_ fun _=>?_)|exact ih0 _ _ _ _ _ _ _ _ _ _ _ _|exact ih1 _ _ _ _ _ _ _ _ _ _ _ _ _ _|exact ih2 _ _ _ _ _ _ _ _ _ _ _ _ _ _ _ _ _|exact Bc.mono _ _ _|exact Bn.mono _|exact Am.mono _ _|exact Bi.mono _ _ _|exact At.mono _ _ _ _ _ _ _ _ _ _ _|exact Ba.mono _ _ _ _ _ _ _ _ _ _ _ _|exact Ad.mono _ _ _ _ _ _ _ _ _ _ _ _|exact Bo.mono _ _ _ _ _ _ _ _ _ _ _ _|exact Ci.mono _ _ _ _ _ _ _ _ _ _ _ _|exact LeO.none _|refine LeO.ite ?_ ?_|refine LeO.bind ?_ fun _=>?_
def Ac.T17 : Bool × List (List Nat × List Nat) := (true, [([], []), ([], []), ([], []), ([], []), ([2, 3], [2, 3]), ([4], [4]), ([0, 1, 5], [0, 1, 5]), ([6, 6, 0, 1, 2, 3, 4, 5, 6], [6])])
def Ac.B17 : List Nat := [0, 0, 0, 0, 12, 28, 63, 127]
theorem Ac.tab17 : rtab .any (opsOf Try.f4 17) = Ac.T17 := by kernel_rfl
theorem Ac.bits17 : waitsOk Ac.T17.2 Ac.B17 = true := by kernel_rfl
set_option maxHeartbeats 8000000 in
set_option maxRecDepth 100000 in
theorem Ac.calls (k : Nat) (A0 : Option Addr) (c0 : Nat) (l0 : List (S64)) (a1_0 : Int) (a1_1 : ByteArray) (a1_2 : Int) (a1_3 : Bool) (a1_4 : Int) (a1_5 : ByteArray) (a1_6 : Int) (a1_7 : ByteArray) (A1_8 : Option Addr) (c1_8 : Nat) (l1_8 : List (S27)) (A2 : Option Addr) (c2 : Nat) (l2 : List (List (S24))) (r : Bool) (w : World) (hr0 : Kd.C k64 w A0 l0.length l0) (hc0 : l0.length ≤ c0) (hr1_8 : Kd.C k27 w A1_8 l1_8.length l1_8) (hc1_8 : l1_8.length ≤ c1_8) (hr2 : Kd.C (Kd.slice 24 k24) w A2 l2.length l2) (hc2 : l2.length ≤ c2) (h : Ac.f k l0 a1_0 a1_1 a1_2 a1_3 a1_4 a1_5 a1_6 a1_7 l1_8 l2 = some r) :
  Calls Try.prog 4 #[.slice A0 l0.length c0, .agg #[.int .i64 a1_0, .string a1_1, .int .i64 a1_2, .bool a1_3, .int .i64 a1_4, .string a1_5, .int .i64 a1_6, .string a1_7, .slice A1_8 l1_8.length c1_8], .slice A2 l2.length c2] w fun e w' => e = .returned (.bool r) ∧ Below w.heap.size w w' := by
 have hu27 := Try.underlying27
 have hu35 := Try.underlying35
 have HR0 := Aa.mk hr0
 have HC0 := Aa.mk hc0
 clear hr0 hc0
 have HR1_8 := Aa.mk hr1_8
 have HC1_8 := Aa.mk hc1_8
 clear hr1_8 hc1_8
 have HR2 := Aa.mk hr2
 have HC2 := Aa.mk hc2
 clear hr2 hc2
 have HB := Aa.mk (Below.refl w.heap.size w)
 have H : ((Bc.f k l0 l2).bind fun t432 => (if t432 = true then ((At.f k a1_0 a1_1 a1_2 a1_3 a1_4 a1_5 a1_6 a1_7 l1_8 9).bind fun t433 => (Ac.j0 k l0 l2 (!t433) a1_0 a1_1 a1_2 a1_3 a1_4 a1_5 a1_6 a1_7 l1_8)) else (Ac.j0 k l0 l2 true a1_0 a1_1 a1_2 a1_3 a1_4 a1_5 a1_6 a1_7 l1_8))) = some r := h
 clear h
 have HC4 := Aa.mk H
 clear H
 go_enter Try.func4, Try.ntmps4
 go_upto_region 1 with (first | ((with_reducible refine Cv (N := 4) rfl ?_); (try (refine Cy (by rfl) ?_; dsimp only)); refine bx_ (N := 4) (cs := #[.int .i64 a1_0, .string a1_1, .int .i64 a1_2, .bool a1_3, .int .i64 a1_4, .string a1_5, .int .i64 a1_6, .string a1_7, .slice A1_8 l1_8.length c1_8]) (t := 27) ?_; intro gb431 hg w5 hbox hb; have BK431 := Aa.mk (hbox); have GW431 := ge_ HB hg; have GE431 := ge_ HB hg; replace HB := bs_ HB hb; clear hb hbox hg))
 (try simp only [Act.put, List.setIfInBounds_toArray, List.set_cons_zero, List.set_cons_succ])
 go_cut [23] (fun v23 wc => ∃ (kq : Nat) (x23_3 : Bool), v23 = .bool x23_3 ∧ Aa (Ac.j0 kq l0 l2 x23_3 a1_0 a1_1 a1_2 a1_3 a1_4 a1_5 a1_6 a1_7 l1_8 = some r) ∧ Aa (kq ≤ k) ∧ Aa (wc.heap[gb431]? = some (.cells #[.int .i64 a1_0, .string a1_1, .int .i64 a1_2, .bool a1_3, .int .i64 a1_4, .string a1_5, .int .i64 a1_6, .string a1_7, (.slice A1_8 l1_8.length c1_8)] 27 (0, 0))) ∧ Aa (Below w.heap.size w wc))
 case first =>(
 have H := HC4.out
 clear HC4
 replace H := Dn H
 obtain ⟨t432, A60, H⟩ := H
 replace H : (if t432 = true then ((At.f k a1_0 a1_1 a1_2 a1_3 a1_4 a1_5 a1_6 a1_7 l1_8 9).bind fun t433 => (Ac.j0 k l0 l2 (!t433) a1_0 a1_1 a1_2 a1_3 a1_4 a1_5 a1_6 a1_7 l1_8)) else (Ac.j0 k l0 l2 true a1_0 a1_1 a1_2 a1_3 a1_4 a1_5 a1_6 a1_7 l1_8)) = some r := H
 have A6 := Aa.mk A60
 clear A60
 by_cases c7 : t432 = true
 rotate_left
 focus(
 replace c7 := Dq c7
 subst c7
 have H1 : (Ac.j0 k l0 l2 true a1_0 a1_1 a1_2 a1_3 a1_4 a1_5 a1_6 a1_7 l1_8) = some r := by rw [if_neg (show ¬ (false = true) by decide)] at H; exact H
 clear H
 have H := H1
 clear H1
 have H' := Aa.mk H
 clear H
 go_wp2_with (first | ((with_reducible refine Aw (f := 16) rfl ?_); refine gl_ (some 17) rfl Try.func16 #[.slice A0 l0.length c0, .slice A2 l2.length c2] ?_; (with_reducible refine (Bc.calls k _ _ l0 _ _ l2 false _ ?side1 ?side2 ?side3 ?side4 A6.out).mono ?_); (case side1 => repeat (first | exact (Kd.C_below HR0.out HB.out) | (with_reducible refine Kd.C_alloc ?_ _) | (with_reducible refine Kd.C_drewN ?_ _) | (with_reducible refine Kd.C_drew ?_))); (case side2 => exact HC0.out); (case side3 => repeat (first | exact (Kd.C_below HR2.out HB.out) | (with_reducible refine Kd.C_alloc ?_ _) | (with_reducible refine Kd.C_drewN ?_ _) | (with_reducible refine Kd.C_drew ?_))); (case side4 => exact HC2.out); rintro e w' ⟨rfl, ⟨nd, rfl⟩⟩; refine ⟨_, rfl, ?_⟩)))
 rotate_right
 focus(
 subst c7
 have H1 : ((At.f k a1_0 a1_1 a1_2 a1_3 a1_4 a1_5 a1_6 a1_7 l1_8 9).bind fun t433 => (Ac.j0 k l0 l2 (!t433) a1_0 a1_1 a1_2 a1_3 a1_4 a1_5 a1_6 a1_7 l1_8)) = some r := by rw [if_pos rfl] at H; exact H
 clear H
 have H := H1
 clear H1
 replace H := Dn H
 obtain ⟨t433, A80, H⟩ := H
 replace H : (Ac.j0 k l0 l2 (!t433) a1_0 a1_1 a1_2 a1_3 a1_4 a1_5 a1_6 a1_7 l1_8) = some r := H
 have A8 := Aa.mk A80
 clear A80
 have H' := Aa.mk H
 clear H
 go_wp2_with (first | ((with_reducible refine Aw (f := 16) rfl ?_); refine gl_ (some 17) rfl Try.func16 #[.slice A0 l0.length c0, .slice A2 l2.length c2] ?_; (with_reducible refine (Bc.calls k _ _ l0 _ _ l2 true _ ?side1 ?side2 ?side3 ?side4 A6.out).mono ?_); (case side1 => repeat (first | exact (Kd.C_below HR0.out HB.out) | (with_reducible refine Kd.C_alloc ?_ _) | (with_reducible refine Kd.C_drewN ?_ _) | (with_reducible refine Kd.C_drew ?_))); (case side2 => exact HC0.out); (case side3 => repeat (first | exact (Kd.C_below HR2.out HB.out) | (with_reducible refine Kd.C_alloc ?_ _) | (with_reducible refine Kd.C_drewN ?_ _) | (with_reducible refine Kd.C_drew ?_))); (case side4 => exact HC2.out); rintro e w' ⟨rfl, ⟨nd, rfl⟩⟩; refine ⟨_, rfl, ?_⟩; obtain ⟨C9_0, C9_1, C9_2, C9_3, C9_4, C9_5, C9_6, C9_7, C9_8⟩ := zc9_ BK431.out; obtain ⟨F9_0, F9_1, F9_2, F9_3, F9_4, F9_5, F9_6, F9_7, F9_8⟩ := zf9_ BK431.out) | (go_at_call 10; (with_reducible refine (At.calls k a1_0 a1_1 a1_2 a1_3 a1_4 a1_5 a1_6 a1_7 _ _ l1_8 9 t433 _ ?side1 ?side2 A8.out).mono ?_); (case side1 => repeat (first | exact (Kd.C_below HR1_8.out (by repeat (first | (with_reducible first | exact HB.out | apply Ak | apply Ah | apply Aj | refine Ao ?_ GE431.out) | exact HB.out))) | (with_reducible refine Kd.C_alloc ?_ _) | (with_reducible refine Kd.C_drewN ?_ _) | (with_reducible refine Kd.C_drew ?_))); (case side2 => exact HC1_8.out); rintro e w10 ⟨rfl, hb⟩;  replace BK431 := bk_ BK431 hb; replace HB := bs_ HB hb; (try clear hb); (try clear hb2); (try clear hk); (try clear hi))))
 all_goals(
 go_meet
 case rel => exact ⟨_, _, (by first | rfl | (simp; done) | (simp [*]; done)), H', ⟨by first | omega | exact Nat.le_refl _⟩, ⟨by (with_reducible repeat (first | refine Ag ?_ _ | refine Af ?_ | refine Ae ?_ _)); exact BK431.out⟩, ⟨by repeat (first | (with_reducible first | exact HB.out | apply Ak | apply Ah | apply Aj | refine Ao ?_ GE431.out) | exact HB.out)⟩⟩))
 case rest =>(
 clear HC4
 try clear c2
 try clear c7
 try clear C9_0 C9_1 C9_2 C9_3 C9_4 C9_5 C9_6 C9_7 C9_8
 try clear F9_0 F9_1 F9_2 F9_3 F9_4 F9_5 F9_6 F9_7 F9_8
 obtain ⟨kq, x23_3, rfl, HA, HJ3, BK431, HB⟩ := hcut
 cases kq with
 | zero => exact absurd HA.out (by simp [Ac.j0])
 | succ kj3 =>(
 have H := HA.out
 clear HA
 simp only [Ac.j0] at H
 by_cases c11 : x23_3 = true
 ·(
 subst c11
 have H1 : ((Bn.f kj3).bind fun t434 => (some t434)) = some r := by rw [if_pos rfl] at H; exact H
 clear H
 have H := H1
 clear H1
 replace H := Dn H
 obtain ⟨t434, A120, H⟩ := H
 replace H : (some t434) = some r := H
 have A12 := Aa.mk A120
 clear A120
 obtain rfl := Dp H
 go_wp2_with (first | ((with_reducible refine Aw (f := 11) rfl ?_); refine gl_ (some 24) rfl Try.func11 #[] ?_; (with_reducible refine (Bn.calls kj3  t434 _ A12.out).mono ?_); rintro e w13 ⟨rfl, hb⟩; refine ⟨_, rfl, ?_⟩;  replace BK431 := bk_ BK431 hb; replace HB := bs_ HB hb; (try clear hb); (try clear hb2); (try clear hk); (try clear hi)))
 go_ret
 exact en_ HB)
 ·(
 replace c11 := Dq c11
 subst c11
 have H1 : ((Ba.f kj3 l0 a1_0 a1_1 a1_2 a1_3 a1_4 a1_5 a1_6 a1_7 l1_8 l2).bind fun bt435 => (if bt435.2 = 0 then (Ac.l0 kj3 l0 l2 bt435.1 (([] : List (S33))) 0 a1_0 a1_1 a1_2 a1_3 a1_4 a1_5 a1_6 a1_7 l1_8) else ((Bn.f kj3).bind fun t439 => (some t439)))) = some r := by rw [if_neg (show ¬ (false = true) by decide)] at H; exact H
 clear H
 have H := H1
 clear H1
 replace H := Dn H
 obtain ⟨⟨t435, t438⟩, A140, H⟩ := H
 replace H : (if t438 = 0 then (Ac.l0 kj3 l0 l2 t435 (([] : List (S33))) 0 a1_0 a1_1 a1_2 a1_3 a1_4 a1_5 a1_6 a1_7 l1_8) else ((Bn.f kj3).bind fun t439 => (some t439))) = some r := H
 have A14 := Aa.mk A140
 clear A140
 by_cases c15 : t438 = 0
 ·(
 rw [if_pos c15] at H
 have c15b0 : (t438 == 0) = true := Dl c15
 have c15b1 : (t438 != 0) = false := Dk c15
 clear c15
 obtain ⟨y440, hy440⟩ : ∃ y_ : List (S33), y_ = (([] : List (S33))) := ⟨_, rfl⟩
 replace H : (Ac.l0 kj3 l0 l2 t435 y440 0 a1_0 a1_1 a1_2 a1_3 a1_4 a1_5 a1_6 a1_7 l1_8) = some r := by first | (rw [hy440]; with_reducible exact H) | (have H2_ := (Option.bind_some _ _).symm.trans H; rw [hy440]; with_reducible exact H2_) | (have H2_ := (Option.bind_some _ _).symm.trans H; with_reducible exact H2_) | with_reducible exact H | (rw [hy440]; exact H) | exact H
 have Ny440 := Aa.mk hy440
 clear hy440
 have H' := Aa.mk H
 clear H
 obtain ⟨C16_0, C16_1, C16_2, C16_3, C16_4, C16_5, C16_6, C16_7, C16_8⟩ := cz9_ BK431.out
 obtain ⟨F16_0, F16_1, F16_2, F16_3, F16_4, F16_5, F16_6, F16_7, F16_8⟩ := fz9_ BK431.out
 go_wp2_with (first | ((with_reducible refine Aw (f := 17) rfl ?_); refine gl_ (some 29) rfl Try.func17 #[.slice A0 l0.length c0, .agg #[.int .i64 a1_0, .string a1_1, .int .i64 a1_2, .bool a1_3, .int .i64 a1_4, .string a1_5, .int .i64 a1_6, .string a1_7, .slice A1_8 l1_8.length c1_8], .slice A2 l2.length c2] ?_; (with_reducible refine (Ba.calls kj3 _ _ l0 a1_0 a1_1 a1_2 a1_3 a1_4 a1_5 a1_6 a1_7 _ _ l1_8 _ _ l2 t435 t438 _ ?side1 ?side2 ?side3 ?side4 ?side5 ?side6 A14.out).mono ?_); (case side1 => repeat (first | exact (Kd.C_below HR0.out HB.out) | (with_reducible refine Kd.C_alloc ?_ _) | (with_reducible refine Kd.C_drewN ?_ _) | (with_reducible refine Kd.C_drew ?_))); (case side2 => exact HC0.out); (case side3 => repeat (first | exact (Kd.C_below HR1_8.out HB.out) | (with_reducible refine Kd.C_alloc ?_ _) | (with_reducible refine Kd.C_drewN ?_ _) | (with_reducible refine Kd.C_drew ?_))); (case side4 => exact HC1_8.out); (case side5 => repeat (first | exact (Kd.C_below HR2.out HB.out) | (with_reducible refine Kd.C_alloc ?_ _) | (with_reducible refine Kd.C_drewN ?_ _) | (with_reducible refine Kd.C_drew ?_))); (case side6 => exact HC2.out); rintro e w17 ⟨v436, rfl, ho0, hb⟩; refine ⟨_, rfl, ?_⟩; have HO437 := Aa.mk (Kd.R_lower ho0 (Ca (by repeat (first | (with_reducible first | exact HB.out | apply Ak | apply Ah | apply Aj | refine Ao ?_ GE431.out) | exact HB.out)))); replace BK431 := bk_ BK431 hb; replace HB := bs_ HB hb; (try clear hb); (try clear hb2); (try clear hk); (try clear hi); (try clear ho0)) | ((with_reducible refine Cv (N := 35) rfl ?_); (try (refine Cy (by rfl) ?_; dsimp only)); refine Kd.R_lit k33 _ 33 ?hg (N := 35) ?hd (xs := ([] : List (S33))) (inner := []) (ok := fun _ => True) (okp := fun _ => True) ?hr ?hp (fun _ hk => hk) trivial (Below.refl _ _) (Nat.le_refl _) (by simp) ?_; (case hd => rfl); (case hg => rfl); (case hr => first | (go_simp; done) | (go_simp; rfl)); (case hp => exact (Reps.none _ _)); intro v441 w18 ho19 hb hg_ hnew_; clear hg_ hnew_; (first | rw [← Ny440.out] at ho19 | (simp only [Int.reduceToNat] at ho19; rw [← Ny440.out] at ho19)); have n0_ := Aa.mk (Kd.R_below (by (with_reducible repeat (first | apply Kd.R_alloc | apply Kd.R_drewN | apply Kd.R_drew)); exact HO437.out) hb); have n1_ := Aa.mk (Kd.R_lower ho19 (Ca (by repeat (first | (with_reducible first | exact HB.out | apply Ak | apply Ah | apply Aj | refine Ao ?_ GE431.out) | exact HB.out)))); have n2_ := bk_ BK431 hb; have n3_ := bs_ HB hb; clear HO437; clear BK431; clear HB; have HO437 := n0_; have HO442 := n1_; have BK431 := n2_; have HB := n3_; clear n0_ n1_ n2_ n3_; clear hb ho19))
 go_loopg [9, 10] kj3 (fun kq v9 v10 w' => ∃ (x9_2 : List (S33)) (x10_2 : Int), v10 = .int .i64 x10_2 ∧ Aa (Ac.l0 kq l0 l2 t435 x9_2 x10_2 a1_0 a1_1 a1_2 a1_3 a1_4 a1_5 a1_6 a1_7 l1_8 = some r) ∧ Aa (kq ≤ kj3) ∧ Aa (Kd.R (Kd.int .i64) 3 w' w.heap.size (fun _ => True) v436 t435) ∧ Aa (Kd.R k33 33 w' w.heap.size (fun _ => True) v9 x9_2) ∧ Aa (w'.heap[gb431]? = some (.cells #[.int .i64 a1_0, .string a1_1, .int .i64 a1_2, .bool a1_3, .int .i64 a1_4, .string a1_5, .int .i64 a1_6, .string a1_7, (.slice A1_8 l1_8.length c1_8)] 27 (0, 0))) ∧ Aa (Below w.heap.size w w'))
 case atStart => exact ⟨_, _, (by first | rfl | (simp; done) | (simp [*]; done)), H', ⟨Nat.le_refl _⟩, ⟨by (with_reducible repeat (first | apply Kd.R_alloc | apply Kd.R_drewN | apply Kd.R_drew)); exact HO437.out⟩, ⟨by (with_reducible repeat (first | apply Kd.R_alloc | apply Kd.R_drewN | apply Kd.R_drew)); exact HO442.out⟩, ⟨by (with_reducible repeat (first | refine Ag ?_ _ | refine Af ?_ | refine Ae ?_ _)); exact BK431.out⟩, ⟨by repeat (first | (with_reducible first | exact HB.out | apply Ak | apply Ah | apply Aj | refine Ao ?_ GE431.out) | exact HB.out)⟩⟩
 case round =>(
 clear H'
 try clear c2
 try clear c11
 try clear c15
 try clear c15b0
 try clear c15b1
 try clear C16_0 C16_1 C16_2 C16_3 C16_4 C16_5 C16_6 C16_7 C16_8
 try clear C9_0 C9_1 C9_2 C9_3 C9_4 C9_5 C9_6 C9_7 C9_8
 try clear F16_0 F16_1 F16_2 F16_3 F16_4 F16_5 F16_6 F16_7 F16_8
 try clear F9_0 F9_1 F9_2 F9_3 F9_4 F9_5 F9_6 F9_7 F9_8
 obtain ⟨x9_2, x10_2, rfl, HA, HK2, HO_7, HO_9, BK431, HB⟩ := hrel
 cases gk with
 | zero => exact absurd HA.out (by simp [Ac.l0])
 | succ k2 =>(
 have H := HA.out
 clear HA
 simp only [Ac.l0] at H
 by_cases c20 : x10_2 < (l0.length : Int)
 ·(
 rw [if_pos c20] at H
 have c20b0 : decide (x10_2 < (l0.length : Int)) = true := decide_eq_true c20
 clear c20
 replace H := Dn H
 obtain ⟨t443, A210, H⟩ := H
 replace H : ((Am.f k2 t443).bind fun bt446 => (if x9_2.length < 1759218604441 then (Ac.l0 k2 l0 l2 t435 (x9_2 ++ [(⟨bt446.1, bt446.2.1, (⟨bt446.2.2.1, bt446.2.2.2.1, bt446.2.2.2.2.1⟩ : S24), (⟨bt446.2.2.2.2.2.1, bt446.2.2.2.2.2.2.1, bt446.2.2.2.2.2.2.2⟩ : S24)⟩ : S33)]) (wrap64 (x10_2 + 1)) a1_0 a1_1 a1_2 a1_3 a1_4 a1_5 a1_6 a1_7 l1_8) else (none))) = some r := H
 have A21 := Aa.mk A210
 clear A210
 replace H := Dn H
 obtain ⟨⟨t446, t447, t448, t449, t450, t451, t452, t453⟩, A220, H⟩ := H
 replace H : (if x9_2.length < 1759218604441 then (Ac.l0 k2 l0 l2 t435 (x9_2 ++ [(⟨t446, t447, (⟨t448, t449, t450⟩ : S24), (⟨t451, t452, t453⟩ : S24)⟩ : S33)]) (wrap64 (x10_2 + 1)) a1_0 a1_1 a1_2 a1_3 a1_4 a1_5 a1_6 a1_7 l1_8) else (none)) = some r := H
 have A22 := Aa.mk A220
 clear A220
 by_cases c23 : x9_2.length < 1759218604441
 ·(
 rw [if_pos c23] at H
 have LMc23 := Aa.mk c23
 clear c23
 obtain ⟨y454, hy454⟩ : ∃ y_ : List (S33), y_ = (x9_2 ++ [(⟨t446, t447, (⟨t448, t449, t450⟩ : S24), (⟨t451, t452, t453⟩ : S24)⟩ : S33)]) := ⟨_, rfl⟩
 replace H : (Ac.l0 k2 l0 l2 t435 y454 (wrap64 (x10_2 + 1)) a1_0 a1_1 a1_2 a1_3 a1_4 a1_5 a1_6 a1_7 l1_8) = some r := by first | (rw [hy454]; with_reducible exact H) | (have H2_ := (Option.bind_some _ _).symm.trans H; rw [hy454]; with_reducible exact H2_) | (have H2_ := (Option.bind_some _ _).symm.trans H; with_reducible exact H2_) | with_reducible exact H | (rw [hy454]; exact H) | exact H
 have Ny454 := Aa.mk hy454
 clear hy454
 have H' := Aa.mk H
 clear H
 go_wp2_with (first | ((with_reducible refine Aw (f := 19) rfl ?_); refine gl_ (some 45) rfl Try.func19 #[.slice A2 l2.length c2, .int .i64 x10_2] ?_; (with_reducible refine (Bi.calls k2 _ _ l2 x10_2 t443 _ ?side1 ?side2 A21.out).mono ?_); (case side1 => repeat (first | exact (Kd.C_below HR2.out HB.out) | (with_reducible refine Kd.C_alloc ?_ _) | (with_reducible refine Kd.C_drewN ?_ _) | (with_reducible refine Kd.C_drew ?_))); (case side2 => exact HC2.out); rintro e w24 ⟨v444, rfl, ho0, hb⟩; refine ⟨_, rfl, ?_⟩; have n0_ := Aa.mk (Kd.R_below (by (with_reducible repeat (first | apply Kd.R_alloc | apply Kd.R_drewN | apply Kd.R_drew)); exact HO_7.out) hb); have n1_ := Aa.mk (Kd.R_below (by (with_reducible repeat (first | apply Kd.R_alloc | apply Kd.R_drewN | apply Kd.R_drew)); exact HO_9.out) hb); have n2_ := Aa.mk (Kd.R_lower ho0 (Ca (by repeat (first | (with_reducible first | exact HB.out | apply Ak | apply Ah | apply Aj | refine Ao ?_ GE431.out) | exact HB.out)))); have n3_ := bk_ BK431 hb; have n4_ := bs_ HB hb; clear HO_7; clear HO_9; clear BK431; clear HB; have HO_7 := n0_; have HO_9 := n1_; have HO445 := n2_; have BK431 := n3_; have HB := n4_; clear n0_ n1_ n2_ n3_ n4_; (try clear hb); (try clear hb2); (try clear hk); (try clear hi); (try clear ho0); obtain ⟨Ao25, co25, eo25⟩ := Kd.R_slice HO445.out; subst eo25) | ((with_reducible refine Aw (f := 18) rfl ?_); refine gl_ (some 46) rfl Try.func18 #[.slice Ao25 t443.length co25] ?_; (with_reducible refine (Am.calls k2 _ _ t443 t446 t447 t448 t449 t450 t451 t452 t453 _ ?side1 ?side2 A22.out).mono ?_); (case side1 => repeat (first | exact (Kd.R_reads' HO445.out).2.2 | (with_reducible refine Kd.C_alloc ?_ _) | (with_reducible refine Kd.C_drewN ?_ _) | (with_reducible refine Kd.C_drew ?_))); (case side2 => exact (Kd.R_reads' HO445.out).2.1); rintro e w26 ⟨rfl, hb⟩; refine ⟨_, rfl, ?_⟩; have n0_ := Aa.mk (Kd.R_below (by (with_reducible repeat (first | apply Kd.R_alloc | apply Kd.R_drewN | apply Kd.R_drew)); exact HO_7.out) hb); have n1_ := Aa.mk (Kd.R_below (by (with_reducible repeat (first | apply Kd.R_alloc | apply Kd.R_drewN | apply Kd.R_drew)); exact HO_9.out) hb); have n2_ := Aa.mk (Kd.R_below (by (with_reducible repeat (first | apply Kd.R_alloc | apply Kd.R_drewN | apply Kd.R_drew)); exact HO445.out) hb); have n3_ := bk_ BK431 hb; have n4_ := bs_ HB hb; clear HO_7; clear HO_9; clear HO445; clear BK431; clear HB; have HO_7 := n0_; have HO_9 := n1_; have HO445 := n2_; have BK431 := n3_; have HB := n4_; clear n0_ n1_ n2_ n3_ n4_; (try clear hb); (try clear hb2); (try clear hk); (try clear hi)) | ((with_reducible refine Dg (b := .append) (xs := #[.tmp 42, .tmp 47]) rfl ?_); (try (refine Cy (by rfl) ?_; dsimp only)); at_builtin; refine Kd.R_append k33 (w0 := w) w.heap.size rfl (.tmp 42) (.tmp 47) 28 33 (.agg #[(.int .i64 0), (.int .i64 0), (.bool false), (.int .i64 0), (.string ⟨#[]⟩), (.bool false), (.int .i64 0), (.string ⟨#[]⟩)]) 80 rfl Try.underlying28 info33 rfl (by decide) (by omega) u9 x9_2 (⟨t446, t447, (⟨t448, t449, t450⟩ : S24), (⟨t451, t452, t453⟩ : S24)⟩ : S33) [.int .i64 t446, .int .i64 t447, .bool t448, .int .i64 t449, .string t450, .bool t451, .int .i64 t452, .string t453] (fun _ => True) (fun _ => False) rfl rfl ?aP (fun _ hk => hk.elim) ?aF ?aO ?aB ?aS ?aL ?_; (case aP => exact k33_mkM _ _ _ (⟨t446, t447, (⟨t448, t449, t450⟩ : S24), (⟨t451, t452, t453⟩ : S24)⟩ : S33)); (case aB => exact (by repeat (first | (with_reducible first | exact HB.out | apply Ak | apply Ah | apply Aj | refine Ao ?_ GE431.out) | exact HB.out))); (case aF => exact (fun _ _ => trivial)); (case aO => exact (by (with_reducible repeat (first | apply Kd.R_alloc | apply Kd.R_drewN | apply Kd.R_drew)); exact HO_9.out)); (case aS => exact (Ca (by repeat (first | (with_reducible first | exact HB.out | apply Ak | apply Ah | apply Aj | refine Ao ?_ GE431.out) | exact HB.out)))); (case aL => have := LMc23.out; omega); intro v455 w27 ho hb hg hat; rw [← Ny454.out] at ho; have n0_ := Aa.mk (Kd.R_over' (by (with_reducible repeat (first | apply Kd.R_alloc | apply Kd.R_drewN | apply Kd.R_drew)); exact HO_7.out) (Kd.R_typed (by (with_reducible repeat (first | apply Kd.R_alloc | apply Kd.R_drewN | apply Kd.R_drew)); exact HO_9.out)) (by decide) hg); have n1_ := Aa.mk (blk_grown (by (with_reducible repeat (first | refine Ag ?_ _ | refine Af ?_ | refine Ae ?_ _)); exact BK431.out) hg (Kd.R_ne HO_9.out BK431.out (by decide))); have n2_ := Aa.mk (Kd.R_over' (by (with_reducible repeat (first | apply Kd.R_alloc | apply Kd.R_drewN | apply Kd.R_drew)); exact HO445.out) (Kd.R_typed (by (with_reducible repeat (first | apply Kd.R_alloc | apply Kd.R_drewN | apply Kd.R_drew)); exact HO_9.out)) (by decide) hg); have n3_ := Aa.mk (hb); have n4_ := Aa.mk (ho); clear HO_7; clear BK431; clear HO445; clear HB; clear HO_9; have HO_7 := n0_; have BK431 := n1_; have HO445 := n2_; have HB := n3_; have HO456 := n4_; clear n0_ n1_ n2_ n3_ n4_; clear ho hb hg hat))
 go_roundg k2
 case measure => have := HJ3.out; have := HK2.out; omega
 case rel => exact ⟨_, _, (by first | rfl | (simp; done) | (simp [*]; done)), H', ⟨by have := HJ3.out; have := HK2.out; omega⟩, ⟨by (with_reducible repeat (first | apply Kd.R_alloc | apply Kd.R_drewN | apply Kd.R_drew)); exact HO_7.out⟩, ⟨by (with_reducible repeat (first | apply Kd.R_alloc | apply Kd.R_drewN | apply Kd.R_drew)); exact HO456.out⟩, ⟨by (with_reducible repeat (first | refine Ag ?_ _ | refine Af ?_ | refine Ae ?_ _)); exact BK431.out⟩, ⟨by repeat (first | (with_reducible first | exact HB.out | apply Ak | apply Ah | apply Aj | refine Ao ?_ GE431.out) | exact HB.out)⟩⟩)
 ·(
 rw [if_neg c23] at H
 exact absurd H (by simp)))
 ·(
 rw [if_neg c20] at H
 have c20b0 : decide (x10_2 < (l0.length : Int)) = false := decide_eq_false c20
 clear c20
 replace H := Dn H
 obtain ⟨⟨t457, t458, t459, t460⟩, A280, H⟩ := H
 replace H : ((Ch.f t460).bind fun t462 => (if t462 = 0 then (Ac.l1 k2 l0 l2 t435 x9_2 0 a1_0 a1_1 a1_2 a1_3 a1_4 a1_5 a1_6 a1_7 l1_8 t457 t458 t459) else (some false))) = some r := H
 have A28 := Aa.mk A280
 clear A280
 replace H := Dn H
 obtain ⟨t462, A290, H⟩ := H
 replace H : (if t462 = 0 then (Ac.l1 k2 l0 l2 t435 x9_2 0 a1_0 a1_1 a1_2 a1_3 a1_4 a1_5 a1_6 a1_7 l1_8 t457 t458 t459) else (some false)) = some r := H
 have A29 := Aa.mk A290
 clear A290
 by_cases c30 : t462 = 0
 ·(
 rw [if_pos c30] at H
 have c30b0 : (t462 == 0) = true := Dl c30
 have c30b1 : (t462 != 0) = false := Dk c30
 clear c30
 have H' := Aa.mk H
 clear H
 obtain ⟨C31_0, C31_1, C31_2, C31_3, C31_4, C31_5, C31_6, C31_7, C31_8⟩ := cz9_ BK431.out
 obtain ⟨F31_0, F31_1, F31_2, F31_3, F31_4, F31_5, F31_6, F31_7, F31_8⟩ := fz9_ BK431.out
 obtain ⟨Ao32, co32, eo32⟩ := Kd.R_slice HO_9.out
 subst eo32
 go_wp2_with (first | ((with_reducible refine Aw (f := 12) rfl ?_); refine gl_ (some 53) rfl Try.func12 #[.slice A0 l0.length c0, .agg #[.int .i64 a1_0, .string a1_1, .int .i64 a1_2, .bool a1_3, .int .i64 a1_4, .string a1_5, .int .i64 a1_6, .string a1_7, .slice A1_8 l1_8.length c1_8], .slice Ao32 x9_2.length co32] ?_; (with_reducible refine (Bo.calls k2 _ _ l0 a1_0 a1_1 a1_2 a1_3 a1_4 a1_5 a1_6 a1_7 _ _ l1_8 _ _ x9_2 t457 t458 t459 t460 _ ?side1 ?side2 ?side3 ?side4 ?side5 ?side6 A28.out).mono ?_); (case side1 => repeat (first | exact (Kd.C_below HR0.out HB.out) | (with_reducible refine Kd.C_alloc ?_ _) | (with_reducible refine Kd.C_drewN ?_ _) | (with_reducible refine Kd.C_drew ?_))); (case side2 => exact HC0.out); (case side3 => repeat (first | exact (Kd.C_below HR1_8.out HB.out) | (with_reducible refine Kd.C_alloc ?_ _) | (with_reducible refine Kd.C_drewN ?_ _) | (with_reducible refine Kd.C_drew ?_))); (case side4 => exact HC1_8.out); (case side5 => repeat (first | exact (Kd.R_reads' HO_9.out).2.2 | (with_reducible refine Kd.C_alloc ?_ _) | (with_reducible refine Kd.C_drewN ?_ _) | (with_reducible refine Kd.C_drew ?_))); (case side6 => exact (Kd.R_reads' HO_9.out).2.1); rintro e w33 ⟨rfl, hb⟩; refine ⟨_, rfl, ?_⟩; have n0_ := Aa.mk (Kd.R_below (by (with_reducible repeat (first | apply Kd.R_alloc | apply Kd.R_drewN | apply Kd.R_drew)); exact HO_7.out) hb); have n1_ := Aa.mk (Kd.R_below (by (with_reducible repeat (first | apply Kd.R_alloc | apply Kd.R_drewN | apply Kd.R_drew)); exact HO_9.out) hb); have n2_ := bk_ BK431 hb; have n3_ := bs_ HB hb; clear HO_7; clear HO_9; clear BK431; clear HB; have HO_7 := n0_; have HO_9 := n1_; have BK431 := n2_; have HB := n3_; clear n0_ n1_ n2_ n3_; (try clear hb); (try clear hb2); (try clear hk); (try clear hi)) | ((with_reducible refine Cv (N := 11) rfl ?_); (try (refine Cy (by rfl) ?_; dsimp only)); refine bx_ (N := 11) (cs := #[.bool false, .bool false, .bool false]) (t := 35) ?_; intro gb461 hg w34 hbox hb; have n0_ := Aa.mk (Kd.R_below (by (with_reducible repeat (first | apply Kd.R_alloc | apply Kd.R_drewN | apply Kd.R_drew)); exact HO_7.out) hb); have n1_ := Aa.mk (Kd.R_below (by (with_reducible repeat (first | apply Kd.R_alloc | apply Kd.R_drewN | apply Kd.R_drew)); exact HO_9.out) hb); have n2_ := bk_ BK431 hb; have n3_ := bs_ HB hb; have n4_ := Aa.mk (hbox); have n5_ := ge_ HB hg; have n6_ := ge_ HB hg; have n7_ := lt_ BK431 hg; have n8_ := gt_ BK431 hg; clear HO_7; clear HO_9; clear BK431; clear HB; have HO_7 := n0_; have HO_9 := n1_; have BK431 := n2_; have HB := n3_; have BK461 := n4_; have GW461 := n5_; have GE461 := n6_; have NB431_461 := n7_; have NB461_431 := n8_; clear n0_ n1_ n2_ n3_ n4_ n5_ n6_ n7_ n8_; clear hb hbox hg; have hnb35 := NB461_431.out; have hnc35 := NB431_461.out; obtain ⟨C36_0, C36_1, C36_2⟩ := zc3_ BK461.out; obtain ⟨F36_0, F36_1, F36_2⟩ := zf3_ BK461.out) | ((with_reducible refine Aw (f := 14) rfl ?_); refine gl_ (some 57) rfl Try.func14 #[.int .i64 t460] ?_; (with_reducible refine (Ch.calls t460 t462 _ A29.out).mono ?_); rintro e w' ⟨rfl, ⟨nd, rfl⟩⟩; refine ⟨_, rfl, ?_⟩))
 go_loopg [13] k2 (fun kq v13 w' => ∃ (x13_3 : Int), v13 = .int .i64 x13_3 ∧ Aa (Ac.l1 kq l0 l2 t435 x9_2 x13_3 a1_0 a1_1 a1_2 a1_3 a1_4 a1_5 a1_6 a1_7 l1_8 t457 t458 t459 = some r) ∧ Aa (kq ≤ k2) ∧ Aa (Kd.R (Kd.int .i64) 3 w' w.heap.size (fun _ => True) v436 t435) ∧ Aa (Kd.R k33 33 w' w.heap.size (fun _ => True) (.slice Ao32 x9_2.length co32) x9_2) ∧ Aa (w'.heap[gb431]? = some (.cells #[.int .i64 a1_0, .string a1_1, .int .i64 a1_2, .bool a1_3, .int .i64 a1_4, .string a1_5, .int .i64 a1_6, .string a1_7, (.slice A1_8 l1_8.length c1_8)] 27 (0, 0))) ∧ Aa (w'.heap[gb461]? = some (.cells #[.bool t457, .bool t458, .bool t459] 35 (0, 0))) ∧ Aa (Below w.heap.size w w'))
 case atStart => exact ⟨_, (by first | rfl | (simp; done) | (simp [*]; done)), H', ⟨Nat.le_refl _⟩, ⟨by (with_reducible repeat (first | apply Kd.R_alloc | apply Kd.R_drewN | apply Kd.R_drew)); exact Kd.R_mono (Kd.R_far (p := ⟨gb461, 2, none⟩) (Kd.R_far (p := ⟨gb461, 1, none⟩) (Kd.R_far (p := ⟨gb461, 0, none⟩) (Kd.R_types HO_7.out BK461.out (by decide)) (fun _ hk => hk.2) (.bool t457)) (fun _ hk => hk.2) (.bool t458)) (fun _ hk => hk.2) (.bool t459)) (fun _ hk => trivial)⟩, ⟨by (with_reducible repeat (first | apply Kd.R_alloc | apply Kd.R_drewN | apply Kd.R_drew)); exact Kd.R_mono (Kd.R_far (p := ⟨gb461, 2, none⟩) (Kd.R_far (p := ⟨gb461, 1, none⟩) (Kd.R_far (p := ⟨gb461, 0, none⟩) (Kd.R_types HO_9.out BK461.out (by decide)) (fun _ hk => hk.2) (.bool t457)) (fun _ hk => hk.2) (.bool t458)) (fun _ hk => hk.2) (.bool t459)) (fun _ hk => trivial)⟩, ⟨by (iterate 3 ((with_reducible repeat (first | refine Ag ?_ _ | refine Af ?_ | refine Ae ?_ _)); refine Bv ?_ NB431_461.out _)); (with_reducible repeat (first | refine Ag ?_ _ | refine Af ?_ | refine Ae ?_ _)); exact BK431.out⟩, ⟨by (with_reducible repeat (first | refine Ag ?_ _ | refine Af ?_ | refine Ae ?_ _)); apply Cf; (with_reducible repeat (first | refine Ag ?_ _ | refine Af ?_ | refine Ae ?_ _)); exact BK461.out⟩, ⟨by repeat (first | (with_reducible first | exact HB.out | apply Ak | apply Ah | apply Aj | refine Ao ?_ GE431.out | refine Ao ?_ GE461.out) | exact HB.out)⟩⟩
 case round =>(
 clear H'
 try clear c2
 try clear c20
 try clear c20b0
 try clear c23
 try clear c30
 try clear c30b0
 try clear c30b1
 try clear C16_0 C16_1 C16_2 C16_3 C16_4 C16_5 C16_6 C16_7 C16_8
 try clear C31_0 C31_1 C31_2 C31_3 C31_4 C31_5 C31_6 C31_7 C31_8
 try clear C36_0 C36_1 C36_2
 try clear C9_0 C9_1 C9_2 C9_3 C9_4 C9_5 C9_6 C9_7 C9_8
 try clear F16_0 F16_1 F16_2 F16_3 F16_4 F16_5 F16_6 F16_7 F16_8
 try clear F31_0 F31_1 F31_2 F31_3 F31_4 F31_5 F31_6 F31_7 F31_8
 try clear F36_0 F36_1 F36_2
 try clear F9_0 F9_1 F9_2 F9_3 F9_4 F9_5 F9_6 F9_7 F9_8
 obtain ⟨x13_3, rfl, HA, HK3, HO_7, HO_9, BK431, BK461, HB⟩ := hrel
 cases gk with
 | zero => exact absurd HA.out (by simp [Ac.l1])
 | succ k3 =>(
 have H := HA.out
 clear HA
 simp only [Ac.l1] at H
 by_cases c37 : x13_3 < (l2.length : Int)
 ·(
 rw [if_pos c37] at H
 have c37b0 : decide (x13_3 < (l2.length : Int)) = true := decide_eq_true c37
 clear c37
 by_cases c38 : 0 ≤ x13_3
 ·(
 rw [if_pos c38] at H
 have c38b0 : decide (0 ≤ x13_3) = true := decide_eq_true c38
 clear c38
 replace H := Dn H
 obtain ⟨t464, A390, H⟩ := H
 replace H : (if t464 = 1 then (if t457 = true then (if t464 = 0 then (if t458 = true then (if t464 = 2 then (if t459 = true then (Ac.l1 k3 l0 l2 t435 x9_2 (wrap64 (x13_3 + 1)) a1_0 a1_1 a1_2 a1_3 a1_4 a1_5 a1_6 a1_7 l1_8 t457 t458 t459) else (some false)) else (Ac.l1 k3 l0 l2 t435 x9_2 (wrap64 (x13_3 + 1)) a1_0 a1_1 a1_2 a1_3 a1_4 a1_5 a1_6 a1_7 l1_8 t457 t458 t459)) else (some false)) else (if t464 = 2 then (if t459 = true then (Ac.l1 k3 l0 l2 t435 x9_2 (wrap64 (x13_3 + 1)) a1_0 a1_1 a1_2 a1_3 a1_4 a1_5 a1_6 a1_7 l1_8 t457 t458 t459) else (some false)) else (Ac.l1 k3 l0 l2 t435 x9_2 (wrap64 (x13_3 + 1)) a1_0 a1_1 a1_2 a1_3 a1_4 a1_5 a1_6 a1_7 l1_8 t457 t458 t459))) else (some false)) else (if t464 = 0 then (if t458 = true then (if t464 = 2 then (if t459 = true then (Ac.l1 k3 l0 l2 t435 x9_2 (wrap64 (x13_3 + 1)) a1_0 a1_1 a1_2 a1_3 a1_4 a1_5 a1_6 a1_7 l1_8 t457 t458 t459) else (some false)) else (Ac.l1 k3 l0 l2 t435 x9_2 (wrap64 (x13_3 + 1)) a1_0 a1_1 a1_2 a1_3 a1_4 a1_5 a1_6 a1_7 l1_8 t457 t458 t459)) else (some false)) else (if t464 = 2 then (if t459 = true then (Ac.l1 k3 l0 l2 t435 x9_2 (wrap64 (x13_3 + 1)) a1_0 a1_1 a1_2 a1_3 a1_4 a1_5 a1_6 a1_7 l1_8 t457 t458 t459) else (some false)) else (Ac.l1 k3 l0 l2 t435 x9_2 (wrap64 (x13_3 + 1)) a1_0 a1_1 a1_2 a1_3 a1_4 a1_5 a1_6 a1_7 l1_8 t457 t458 t459)))) = some r := H
 have A39 := Aa.mk A390
 clear A390
 have H' := Aa.mk H
 clear H
 try go_wp2
 replace HO_7 := Aa.mk (Kd.R_drew HO_7.out); replace HO_9 := Aa.mk (Kd.R_drew HO_9.out); replace BK431 := Aa.mk (Af BK431.out); replace BK461 := Aa.mk (Af BK461.out); replace HB := Aa.mk (Aj HB.out)
 have p463 : 0 ≤ (x13_3 : Int) := dt_
 have q463 : x13_3 < (l2.length : Int) := dt_
 obtain ⟨ad463, A463_0, c463_0, e463, hx463_0, hl463_0, hi463_0⟩ := at_L8 HR2.out x13_3 p463 q463
 have hw463_0 := hx463_0
 cases e463
 replace hx463_0 := hc_ HB hx463_0
 have HR463_0 := Aa.mk hi463_0
 have HC463_0 := Aa.mk hl463_0
 clear hi463_0 hl463_0
 replace p463 := eq_true p463
 replace q463 := eq_true q463
 refine start_ (n := 8) (S := fun w' => w'.cell? ⟨gb431, 0, none⟩ = some (.int .i64 a1_0) ∧ w'.cell? ⟨gb431, 1, none⟩ = some (.string a1_1) ∧ w'.cell? ⟨gb431, 2, none⟩ = some (.int .i64 a1_2) ∧ w'.cell? ⟨gb431, 3, none⟩ = some (.bool a1_3) ∧ w'.cell? ⟨gb431, 4, none⟩ = some (.int .i64 a1_4) ∧ w'.cell? ⟨gb431, 5, none⟩ = some (.string a1_5) ∧ w'.cell? ⟨gb431, 6, none⟩ = some (.int .i64 a1_6) ∧ w'.cell? ⟨gb431, 7, none⟩ = some (.string a1_7) ∧ w'.cell? ⟨gb431, 8, none⟩ = some (.slice A1_8 l1_8.length c1_8) ∧ w'.cell? (ad463.add (x13_3).toNat) = some (.slice A463_0 (rd_L8 l2 x13_3).length c463_0)) (ds := []) #[false, false, false, false, false, false, false, false] (by kernel_rfl) rfl rfl ⟨(Ab BK431.out 0).trans rfl, (Ab BK431.out 1).trans rfl, (Ab BK431.out 2).trans rfl, (Ab BK431.out 3).trans rfl, (Ab BK431.out 4).trans rfl, (Ab BK431.out 5).trans rfl, (Ab BK431.out 6).trans rfl, (Ab BK431.out 7).trans rfl, (Ab BK431.out 8).trans rfl, ((HB.out.cell (World.block_lt_of_cell? w _ hw463_0)).trans hw463_0)⟩ (fun hHeld => ?_); refine with_tabW Ac.tab17 Ac.bits17 (fun HT_ HW_ => ?_)
 generalize wr.drew = w46 at HO_7 HO_9 BK431 BK461 HB HR463_0 hx463_0 hHeld ⊢
 refine pu_ 0 (some 65) (bl_ 8 1) ?_
 refine pu_ 2 (some 67) (bl_ 8 5) ?_
 refine pu_ 3 (some 68) (bl_ 8 13) ?_
 refine pu_ 4 (some 69) (bl_ 8 29) ?_
 refine ta_ 1 (some 66) (bl_ 8 31) hHeld ?_
 refine ta_ 5 (some 70) (bl_ 8 63) hHeld ?_
 refine one_ (i := 6) (N := some 71) #[true, true, true, true, true, true, true, false] rfl rfl (one_of HT_.out (by kernel_rfl)) (by decide) (fun K hK => ?_)
 refine gs_ Try.func20 #[.slice A0 l0.length c0, .agg #[.int .i64 a1_0, .string a1_1, .int .i64 a1_2, .bool a1_3, .int .i64 a1_4, .string a1_5, .int .i64 a1_6, .string a1_7, .slice A1_8 l1_8.length c1_8], .slice A463_0 (rd_L8 l2 x13_3).length c463_0] ?_
 with_reducible refine (Ad.calls k3 _ _ l0 a1_0 a1_1 a1_2 a1_3 a1_4 a1_5 a1_6 a1_7 _ _ l1_8 _ _ (rd_L8 l2 x13_3) t464 _ ?side1 ?side2 ?side3 ?side4 ?side5 ?side6 A39.out).mono ?_
 (case side1 => repeat (first | exact (Kd.C_below HR0.out HB.out) | (with_reducible refine Kd.C_alloc ?_ _) | (with_reducible refine Kd.C_drewN ?_ _) | (with_reducible refine Kd.C_drew ?_)))
 (case side2 => exact HC0.out)
 (case side3 => repeat (first | exact (Kd.C_below HR1_8.out HB.out) | (with_reducible refine Kd.C_alloc ?_ _) | (with_reducible refine Kd.C_drewN ?_ _) | (with_reducible refine Kd.C_drew ?_)))
 (case side4 => exact HC1_8.out)
 (case side5 => repeat (first | exact (Kd.C_below HR463_0.out HB.out) | (with_reducible refine Kd.C_alloc ?_ _) | (with_reducible refine Kd.C_drewN ?_ _) | (with_reducible refine Kd.C_drew ?_)))
 (case side6 => exact HC463_0.out)
 rintro e w47 ⟨rfl, hb⟩
 refine ⟨_, rfl, ?_⟩
 replace HO_7 := Aa.mk (Kd.R_below (by (with_reducible repeat (first | apply Kd.R_alloc | apply Kd.R_drewN | apply Kd.R_drew)); exact HO_7.out) hb); replace HO_9 := Aa.mk (Kd.R_below (by (with_reducible repeat (first | apply Kd.R_alloc | apply Kd.R_drewN | apply Kd.R_drew)); exact HO_9.out) hb); replace BK431 := bk_ BK431 hb; replace BK461 := bk_ BK461 hb; replace HB := bs_ HB hb
 (try clear hb)
 (try clear hb2)
 (try clear hk)
 (try clear hi)
 refine hK.out _ _ ⟨(Ab BK431.out 0).trans rfl, (Ab BK431.out 1).trans rfl, (Ab BK431.out 2).trans rfl, (Ab BK431.out 3).trans rfl, (Ab BK431.out 4).trans rfl, (Ab BK431.out 5).trans rfl, (Ab BK431.out 6).trans rfl, (Ab BK431.out 7).trans rfl, (Ab BK431.out 8).trans rfl, ((HB.out.cell (World.block_lt_of_cell? w _ hw463_0)).trans hw463_0)⟩ (fun hHeld => ?_)
 clear hK K
 refine norm_ (a' := ?_) ?_ ?_
 rotate_left
 ·(
 show Act.put _ (some 71) _ = _
 simp only [Act.put, List.setIfInBounds_toArray, List.set_cons_zero, List.set_cons_succ, i64_w, i32_w]
 rfl)
 refine pu_ 7 (some 14) (bl_ 8 255) ?_
 refine done_ (done_of HT_.out (by kernel_rfl)) ?_
 have hnb48 := NB461_431.out
 have hnc48 := NB431_461.out
 obtain ⟨C49_0, C49_1, C49_2⟩ := cz3_ BK461.out
 obtain ⟨F49_0, F49_1, F49_2⟩ := fz3_ BK461.out
 have H := H'.out
 clear H'
 by_cases c40 : t464 = 1
 ·(
 rw [if_pos c40] at H
 have c40b0 : (t464 == 1) = true := Dl c40
 have c40b1 : (t464 != 1) = false := Dk c40
 clear c40
 by_cases c41 : t457 = true
 ·(
 subst c41
 have H1 : (if t464 = 0 then (if t458 = true then (if t464 = 2 then (if t459 = true then (Ac.l1 k3 l0 l2 t435 x9_2 (wrap64 (x13_3 + 1)) a1_0 a1_1 a1_2 a1_3 a1_4 a1_5 a1_6 a1_7 l1_8 true t458 t459) else (some false)) else (Ac.l1 k3 l0 l2 t435 x9_2 (wrap64 (x13_3 + 1)) a1_0 a1_1 a1_2 a1_3 a1_4 a1_5 a1_6 a1_7 l1_8 true t458 t459)) else (some false)) else (if t464 = 2 then (if t459 = true then (Ac.l1 k3 l0 l2 t435 x9_2 (wrap64 (x13_3 + 1)) a1_0 a1_1 a1_2 a1_3 a1_4 a1_5 a1_6 a1_7 l1_8 true t458 t459) else (some false)) else (Ac.l1 k3 l0 l2 t435 x9_2 (wrap64 (x13_3 + 1)) a1_0 a1_1 a1_2 a1_3 a1_4 a1_5 a1_6 a1_7 l1_8 true t458 t459))) = some r := by rw [if_pos rfl] at H; exact H
 clear H
 have H := H1
 clear H1
 by_cases c42 : t464 = 0
 ·(
 rw [if_pos c42] at H
 have c42b0 : (t464 == 0) = true := Dl c42
 have c42b1 : (t464 != 0) = false := Dk c42
 clear c42
 by_cases c43 : t458 = true
 ·(
 subst c43
 have H1 : (if t464 = 2 then (if t459 = true then (Ac.l1 k3 l0 l2 t435 x9_2 (wrap64 (x13_3 + 1)) a1_0 a1_1 a1_2 a1_3 a1_4 a1_5 a1_6 a1_7 l1_8 true true t459) else (some false)) else (Ac.l1 k3 l0 l2 t435 x9_2 (wrap64 (x13_3 + 1)) a1_0 a1_1 a1_2 a1_3 a1_4 a1_5 a1_6 a1_7 l1_8 true true t459)) = some r := by rw [if_pos rfl] at H; exact H
 clear H
 have H := H1
 clear H1
 by_cases c44 : t464 = 2
 ·(
 rw [if_pos c44] at H
 have c44b0 : (t464 == 2) = true := Dl c44
 have c44b1 : (t464 != 2) = false := Dk c44
 clear c44
 by_cases c45 : t459 = true
 ·(
 subst c45
 have H1 : (Ac.l1 k3 l0 l2 t435 x9_2 (wrap64 (x13_3 + 1)) a1_0 a1_1 a1_2 a1_3 a1_4 a1_5 a1_6 a1_7 l1_8 true true true) = some r := by rw [if_pos rfl] at H; exact H
 clear H
 have H := H1
 clear H1
 have H' := Aa.mk H
 clear H
 try go_wp2
 go_roundg k3
 case measure => have := HJ3.out; have := HK2.out; have := HK3.out; omega
 case rel => exact ⟨_, (by first | rfl | (simp; done) | (simp [*]; done)), H', ⟨by have := HJ3.out; have := HK2.out; have := HK3.out; omega⟩, ⟨by (with_reducible repeat (first | apply Kd.R_alloc | apply Kd.R_drewN | apply Kd.R_drew)); exact HO_7.out⟩, ⟨by (with_reducible repeat (first | apply Kd.R_alloc | apply Kd.R_drewN | apply Kd.R_drew)); exact HO_9.out⟩, ⟨by (with_reducible repeat (first | refine Ag ?_ _ | refine Af ?_ | refine Ae ?_ _)); exact BK431.out⟩, ⟨by (with_reducible repeat (first | refine Ag ?_ _ | refine Af ?_ | refine Ae ?_ _)); exact BK461.out⟩, ⟨by repeat (first | (with_reducible first | exact HB.out | apply Ak | apply Ah | apply Aj | refine Ao ?_ GE431.out | refine Ao ?_ GE461.out) | exact HB.out)⟩⟩)
 ·(
 replace c45 := Dq c45
 subst c45
 have H1 : (some false) = some r := by rw [if_neg (show ¬ (false = true) by decide)] at H; exact H
 clear H
 have H := H1
 clear H1
 obtain rfl := Dp H
 try go_wp2
 go_ret
 exact en_ HB))
 ·(
 rw [if_neg c44] at H
 have c44b0 : (t464 == 2) = false := Dj c44
 have c44b1 : (t464 != 2) = true := Dm c44
 have H' := Aa.mk H
 clear H
 try go_wp2
 go_roundg k3
 case measure => have := HJ3.out; have := HK2.out; have := HK3.out; omega
 case rel => exact ⟨_, (by first | rfl | (simp; done) | (simp [*]; done)), H', ⟨by have := HJ3.out; have := HK2.out; have := HK3.out; omega⟩, ⟨by (with_reducible repeat (first | apply Kd.R_alloc | apply Kd.R_drewN | apply Kd.R_drew)); exact HO_7.out⟩, ⟨by (with_reducible repeat (first | apply Kd.R_alloc | apply Kd.R_drewN | apply Kd.R_drew)); exact HO_9.out⟩, ⟨by (with_reducible repeat (first | refine Ag ?_ _ | refine Af ?_ | refine Ae ?_ _)); exact BK431.out⟩, ⟨by (with_reducible repeat (first | refine Ag ?_ _ | refine Af ?_ | refine Ae ?_ _)); exact BK461.out⟩, ⟨by repeat (first | (with_reducible first | exact HB.out | apply Ak | apply Ah | apply Aj | refine Ao ?_ GE431.out | refine Ao ?_ GE461.out) | exact HB.out)⟩⟩))
 ·(
 replace c43 := Dq c43
 subst c43
 have H1 : (some false) = some r := by rw [if_neg (show ¬ (false = true) by decide)] at H; exact H
 clear H
 have H := H1
 clear H1
 obtain rfl := Dp H
 try go_wp2
 go_ret
 exact en_ HB))
 ·(
 rw [if_neg c42] at H
 have c42b0 : (t464 == 0) = false := Dj c42
 have c42b1 : (t464 != 0) = true := Dm c42
 by_cases c62 : t464 = 2
 ·(
 rw [if_pos c62] at H
 have c62b0 : (t464 == 2) = true := Dl c62
 have c62b1 : (t464 != 2) = false := Dk c62
 clear c62
 by_cases c63 : t459 = true
 ·(
 subst c63
 have H1 : (Ac.l1 k3 l0 l2 t435 x9_2 (wrap64 (x13_3 + 1)) a1_0 a1_1 a1_2 a1_3 a1_4 a1_5 a1_6 a1_7 l1_8 true t458 true) = some r := by rw [if_pos rfl] at H; exact H
 clear H
 have H := H1
 clear H1
 have H' := Aa.mk H
 clear H
 try go_wp2
 go_roundg k3
 case measure => have := HJ3.out; have := HK2.out; have := HK3.out; omega
 case rel => exact ⟨_, (by first | rfl | (simp; done) | (simp [*]; done)), H', ⟨by have := HJ3.out; have := HK2.out; have := HK3.out; omega⟩, ⟨by (with_reducible repeat (first | apply Kd.R_alloc | apply Kd.R_drewN | apply Kd.R_drew)); exact HO_7.out⟩, ⟨by (with_reducible repeat (first | apply Kd.R_alloc | apply Kd.R_drewN | apply Kd.R_drew)); exact HO_9.out⟩, ⟨by (with_reducible repeat (first | refine Ag ?_ _ | refine Af ?_ | refine Ae ?_ _)); exact BK431.out⟩, ⟨by (with_reducible repeat (first | refine Ag ?_ _ | refine Af ?_ | refine Ae ?_ _)); exact BK461.out⟩, ⟨by repeat (first | (with_reducible first | exact HB.out | apply Ak | apply Ah | apply Aj | refine Ao ?_ GE431.out | refine Ao ?_ GE461.out) | exact HB.out)⟩⟩)
 ·(
 replace c63 := Dq c63
 subst c63
 have H1 : (some false) = some r := by rw [if_neg (show ¬ (false = true) by decide)] at H; exact H
 clear H
 have H := H1
 clear H1
 obtain rfl := Dp H
 try go_wp2
 go_ret
 exact en_ HB))
 ·(
 rw [if_neg c62] at H
 have c62b0 : (t464 == 2) = false := Dj c62
 have c62b1 : (t464 != 2) = true := Dm c62
 have H' := Aa.mk H
 clear H
 try go_wp2
 go_roundg k3
 case measure => have := HJ3.out; have := HK2.out; have := HK3.out; omega
 case rel => exact ⟨_, (by first | rfl | (simp; done) | (simp [*]; done)), H', ⟨by have := HJ3.out; have := HK2.out; have := HK3.out; omega⟩, ⟨by (with_reducible repeat (first | apply Kd.R_alloc | apply Kd.R_drewN | apply Kd.R_drew)); exact HO_7.out⟩, ⟨by (with_reducible repeat (first | apply Kd.R_alloc | apply Kd.R_drewN | apply Kd.R_drew)); exact HO_9.out⟩, ⟨by (with_reducible repeat (first | refine Ag ?_ _ | refine Af ?_ | refine Ae ?_ _)); exact BK431.out⟩, ⟨by (with_reducible repeat (first | refine Ag ?_ _ | refine Af ?_ | refine Ae ?_ _)); exact BK461.out⟩, ⟨by repeat (first | (with_reducible first | exact HB.out | apply Ak | apply Ah | apply Aj | refine Ao ?_ GE431.out | refine Ao ?_ GE461.out) | exact HB.out)⟩⟩)))
 ·(
 replace c41 := Dq c41
 subst c41
 have H1 : (some false) = some r := by rw [if_neg (show ¬ (false = true) by decide)] at H; exact H
 clear H
 have H := H1
 clear H1
 obtain rfl := Dp H
 try go_wp2
 go_ret
 exact en_ HB))
 ·(
 rw [if_neg c40] at H
 have c40b0 : (t464 == 1) = false := Dj c40
 have c40b1 : (t464 != 1) = true := Dm c40
 by_cases c80 : t464 = 0
 ·(
 rw [if_pos c80] at H
 have c80b0 : (t464 == 0) = true := Dl c80
 have c80b1 : (t464 != 0) = false := Dk c80
 clear c80
 by_cases c81 : t458 = true
 ·(
 subst c81
 have H1 : (if t464 = 2 then (if t459 = true then (Ac.l1 k3 l0 l2 t435 x9_2 (wrap64 (x13_3 + 1)) a1_0 a1_1 a1_2 a1_3 a1_4 a1_5 a1_6 a1_7 l1_8 t457 true t459) else (some false)) else (Ac.l1 k3 l0 l2 t435 x9_2 (wrap64 (x13_3 + 1)) a1_0 a1_1 a1_2 a1_3 a1_4 a1_5 a1_6 a1_7 l1_8 t457 true t459)) = some r := by rw [if_pos rfl] at H; exact H
 clear H
 have H := H1
 clear H1
 by_cases c82 : t464 = 2
 ·(
 rw [if_pos c82] at H
 have c82b0 : (t464 == 2) = true := Dl c82
 have c82b1 : (t464 != 2) = false := Dk c82
 clear c82
 by_cases c83 : t459 = true
 ·(
 subst c83
 have H1 : (Ac.l1 k3 l0 l2 t435 x9_2 (wrap64 (x13_3 + 1)) a1_0 a1_1 a1_2 a1_3 a1_4 a1_5 a1_6 a1_7 l1_8 t457 true true) = some r := by rw [if_pos rfl] at H; exact H
 clear H
 have H := H1
 clear H1
 have H' := Aa.mk H
 clear H
 try go_wp2
 go_roundg k3
 case measure => have := HJ3.out; have := HK2.out; have := HK3.out; omega
 case rel => exact ⟨_, (by first | rfl | (simp; done) | (simp [*]; done)), H', ⟨by have := HJ3.out; have := HK2.out; have := HK3.out; omega⟩, ⟨by (with_reducible repeat (first | apply Kd.R_alloc | apply Kd.R_drewN | apply Kd.R_drew)); exact HO_7.out⟩, ⟨by (with_reducible repeat (first | apply Kd.R_alloc | apply Kd.R_drewN | apply Kd.R_drew)); exact HO_9.out⟩, ⟨by (with_reducible repeat (first | refine Ag ?_ _ | refine Af ?_ | refine Ae ?_ _)); exact BK431.out⟩, ⟨by (with_reducible repeat (first | refine Ag ?_ _ | refine Af ?_ | refine Ae ?_ _)); exact BK461.out⟩, ⟨by repeat (first | (with_reducible first | exact HB.out | apply Ak | apply Ah | apply Aj | refine Ao ?_ GE431.out | refine Ao ?_ GE461.out) | exact HB.out)⟩⟩)
 ·(
 replace c83 := Dq c83
 subst c83
 have H1 : (some false) = some r := by rw [if_neg (show ¬ (false = true) by decide)] at H; exact H
 clear H
 have H := H1
 clear H1
 obtain rfl := Dp H
 try go_wp2
 go_ret
 exact en_ HB))
 ·(
 rw [if_neg c82] at H
 have c82b0 : (t464 == 2) = false := Dj c82
 have c82b1 : (t464 != 2) = true := Dm c82
 have H' := Aa.mk H
 clear H
 try go_wp2
 go_roundg k3
 case measure => have := HJ3.out; have := HK2.out; have := HK3.out; omega
 case rel => exact ⟨_, (by first | rfl | (simp; done) | (simp [*]; done)), H', ⟨by have := HJ3.out; have := HK2.out; have := HK3.out; omega⟩, ⟨by (with_reducible repeat (first | apply Kd.R_alloc | apply Kd.R_drewN | apply Kd.R_drew)); exact HO_7.out⟩, ⟨by (with_reducible repeat (first | apply Kd.R_alloc | apply Kd.R_drewN | apply Kd.R_drew)); exact HO_9.out⟩, ⟨by (with_reducible repeat (first | refine Ag ?_ _ | refine Af ?_ | refine Ae ?_ _)); exact BK431.out⟩, ⟨by (with_reducible repeat (first | refine Ag ?_ _ | refine Af ?_ | refine Ae ?_ _)); exact BK461.out⟩, ⟨by repeat (first | (with_reducible first | exact HB.out | apply Ak | apply Ah | apply Aj | refine Ao ?_ GE431.out | refine Ao ?_ GE461.out) | exact HB.out)⟩⟩))
 ·(
 replace c81 := Dq c81
 subst c81
 have H1 : (some false) = some r := by rw [if_neg (show ¬ (false = true) by decide)] at H; exact H
 clear H
 have H := H1
 clear H1
 obtain rfl := Dp H
 try go_wp2
 go_ret
 exact en_ HB))
 ·(
 rw [if_neg c80] at H
 have c80b0 : (t464 == 0) = false := Dj c80
 have c80b1 : (t464 != 0) = true := Dm c80
 by_cases c100 : t464 = 2
 ·(
 rw [if_pos c100] at H
 have c100b0 : (t464 == 2) = true := Dl c100
 have c100b1 : (t464 != 2) = false := Dk c100
 clear c100
 by_cases c101 : t459 = true
 ·(
 subst c101
 have H1 : (Ac.l1 k3 l0 l2 t435 x9_2 (wrap64 (x13_3 + 1)) a1_0 a1_1 a1_2 a1_3 a1_4 a1_5 a1_6 a1_7 l1_8 t457 t458 true) = some r := by rw [if_pos rfl] at H; exact H
 clear H
 have H := H1
 clear H1
 have H' := Aa.mk H
 clear H
 try go_wp2
 go_roundg k3
 case measure => have := HJ3.out; have := HK2.out; have := HK3.out; omega
 case rel => exact ⟨_, (by first | rfl | (simp; done) | (simp [*]; done)), H', ⟨by have := HJ3.out; have := HK2.out; have := HK3.out; omega⟩, ⟨by (with_reducible repeat (first | apply Kd.R_alloc | apply Kd.R_drewN | apply Kd.R_drew)); exact HO_7.out⟩, ⟨by (with_reducible repeat (first | apply Kd.R_alloc | apply Kd.R_drewN | apply Kd.R_drew)); exact HO_9.out⟩, ⟨by (with_reducible repeat (first | refine Ag ?_ _ | refine Af ?_ | refine Ae ?_ _)); exact BK431.out⟩, ⟨by (with_reducible repeat (first | refine Ag ?_ _ | refine Af ?_ | refine Ae ?_ _)); exact BK461.out⟩, ⟨by repeat (first | (with_reducible first | exact HB.out | apply Ak | apply Ah | apply Aj | refine Ao ?_ GE431.out | refine Ao ?_ GE461.out) | exact HB.out)⟩⟩)
 ·(
 replace c101 := Dq c101
 subst c101
 have H1 : (some false) = some r := by rw [if_neg (show ¬ (false = true) by decide)] at H; exact H
 clear H
 have H := H1
 clear H1
 obtain rfl := Dp H
 try go_wp2
 go_ret
 exact en_ HB))
 ·(
 rw [if_neg c100] at H
 have c100b0 : (t464 == 2) = false := Dj c100
 have c100b1 : (t464 != 2) = true := Dm c100
 have H' := Aa.mk H
 clear H
 try go_wp2
 go_roundg k3
 case measure => have := HJ3.out; have := HK2.out; have := HK3.out; omega
 case rel => exact ⟨_, (by first | rfl | (simp; done) | (simp [*]; done)), H', ⟨by have := HJ3.out; have := HK2.out; have := HK3.out; omega⟩, ⟨by (with_reducible repeat (first | apply Kd.R_alloc | apply Kd.R_drewN | apply Kd.R_drew)); exact HO_7.out⟩, ⟨by (with_reducible repeat (first | apply Kd.R_alloc | apply Kd.R_drewN | apply Kd.R_drew)); exact HO_9.out⟩, ⟨by (with_reducible repeat (first | refine Ag ?_ _ | refine Af ?_ | refine Ae ?_ _)); exact BK431.out⟩, ⟨by (with_reducible repeat (first | refine Ag ?_ _ | refine Af ?_ | refine Ae ?_ _)); exact BK461.out⟩, ⟨by repeat (first | (with_reducible first | exact HB.out | apply Ak | apply Ah | apply Aj | refine Ao ?_ GE431.out | refine Ao ?_ GE461.out) | exact HB.out)⟩⟩))))
 ·(
 rw [if_neg c38] at H
 exact absurd H (by simp)))
 ·(
 rw [if_neg c37] at H
 have c37b0 : decide (x13_3 < (l2.length : Int)) = false := decide_eq_false c37
 clear c37
 replace H := Dn H
 obtain ⟨t465, A1120, H⟩ := H
 replace H : (if t465 = true then (if (t435.length : Int) = 0 then ((Bn.f k3).bind fun t466 => (some t466)) else (some false)) else ((Bn.f k3).bind fun t467 => (some t467))) = some r := H
 have A112 := Aa.mk A1120
 clear A1120
 by_cases c113 : t465 = true
 ·(
 subst c113
 have H1 : (if (t435.length : Int) = 0 then ((Bn.f k3).bind fun t466 => (some t466)) else (some false)) = some r := by rw [if_pos rfl] at H; exact H
 clear H
 have H := H1
 clear H1
 by_cases c114 : (t435.length : Int) = 0
 ·(
 rw [if_pos c114] at H
 have c114b0 : ((t435.length : Int) == 0) = true := Dl c114
 have c114b1 : ((t435.length : Int) != 0) = false := Dk c114
 clear c114
 replace H := Dn H
 obtain ⟨t466, A1150, H⟩ := H
 replace H : (some t466) = some r := H
 have A115 := Aa.mk A1150
 clear A1150
 obtain rfl := Dp H
 have hnb116 := NB431_461.out
 have hnc116 := NB461_431.out
 obtain ⟨C117_0, C117_1, C117_2, C117_3, C117_4, C117_5, C117_6, C117_7, C117_8⟩ := cz9_ BK431.out
 obtain ⟨F117_0, F117_1, F117_2, F117_3, F117_4, F117_5, F117_6, F117_7, F117_8⟩ := fz9_ BK431.out
 go_wp2_with (first | ((with_reducible refine Aw (f := 15) rfl ?_); refine gl_ (some 100) rfl Try.func15 #[.slice A0 l0.length c0, .agg #[.int .i64 a1_0, .string a1_1, .int .i64 a1_2, .bool a1_3, .int .i64 a1_4, .string a1_5, .int .i64 a1_6, .string a1_7, .slice A1_8 l1_8.length c1_8], .slice Ao32 x9_2.length co32] ?_; (with_reducible refine (Ci.calls k3 _ _ l0 a1_0 a1_1 a1_2 a1_3 a1_4 a1_5 a1_6 a1_7 _ _ l1_8 _ _ x9_2 true _ ?side1 ?side2 ?side3 ?side4 ?side5 ?side6 A112.out).mono ?_); (case side1 => repeat (first | exact (Kd.C_below HR0.out HB.out) | (with_reducible refine Kd.C_alloc ?_ _) | (with_reducible refine Kd.C_drewN ?_ _) | (with_reducible refine Kd.C_drew ?_))); (case side2 => exact HC0.out); (case side3 => repeat (first | exact (Kd.C_below HR1_8.out HB.out) | (with_reducible refine Kd.C_alloc ?_ _) | (with_reducible refine Kd.C_drewN ?_ _) | (with_reducible refine Kd.C_drew ?_))); (case side4 => exact HC1_8.out); (case side5 => repeat (first | exact (Kd.R_reads' HO_9.out).2.2 | (with_reducible refine Kd.C_alloc ?_ _) | (with_reducible refine Kd.C_drewN ?_ _) | (with_reducible refine Kd.C_drew ?_))); (case side6 => exact (Kd.R_reads' HO_9.out).2.1); rintro e w118 ⟨rfl, hb⟩; refine ⟨_, rfl, ?_⟩; have n0_ := Aa.mk (Kd.R_below (by (with_reducible repeat (first | apply Kd.R_alloc | apply Kd.R_drewN | apply Kd.R_drew)); exact HO_7.out) hb); have n1_ := Aa.mk (Kd.R_below (by (with_reducible repeat (first | apply Kd.R_alloc | apply Kd.R_drewN | apply Kd.R_drew)); exact HO_9.out) hb); have n2_ := bk_ BK431 hb; have n3_ := bk_ BK461 hb; have n4_ := bs_ HB hb; clear HO_7; clear HO_9; clear BK431; clear BK461; clear HB; have HO_7 := n0_; have HO_9 := n1_; have BK431 := n2_; have BK461 := n3_; have HB := n4_; clear n0_ n1_ n2_ n3_ n4_; (try clear hb); (try clear hb2); (try clear hk); (try clear hi); obtain ⟨Ao119, co119, eo119⟩ := Kd.R_slice HO_7.out; subst eo119) | (go_at_call 11; (with_reducible refine (Bn.calls k3  t466 _ A115.out).mono ?_); rintro e w120 ⟨rfl, hb⟩; have n0_ := Aa.mk (Kd.R_below (by (with_reducible repeat (first | apply Kd.R_alloc | apply Kd.R_drewN | apply Kd.R_drew)); exact HO_7.out) hb); have n1_ := Aa.mk (Kd.R_below (by (with_reducible repeat (first | apply Kd.R_alloc | apply Kd.R_drewN | apply Kd.R_drew)); exact HO_9.out) hb); have n2_ := bk_ BK431 hb; have n3_ := bk_ BK461 hb; have n4_ := bs_ HB hb; clear HO_7; clear HO_9; clear BK431; clear BK461; clear HB; have HO_7 := n0_; have HO_9 := n1_; have BK431 := n2_; have BK461 := n3_; have HB := n4_; clear n0_ n1_ n2_ n3_ n4_; (try clear hb); (try clear hb2); (try clear hk); (try clear hi)))
 go_ret
 exact en_ HB)
 ·(
 rw [if_neg c114] at H
 have c114b0 : ((t435.length : Int) == 0) = false := Dj c114
 have c114b1 : ((t435.length : Int) != 0) = true := Dm c114
 have c114b2 : ¬ (t435 = []) := fun h_ => c114 (by rw [h_]; rfl)
 obtain rfl := Dp H
 have hnb121 := NB431_461.out
 have hnc121 := NB461_431.out
 obtain ⟨C122_0, C122_1, C122_2, C122_3, C122_4, C122_5, C122_6, C122_7, C122_8⟩ := cz9_ BK431.out
 obtain ⟨F122_0, F122_1, F122_2, F122_3, F122_4, F122_5, F122_6, F122_7, F122_8⟩ := fz9_ BK431.out
 go_wp2_with (first | ((with_reducible refine Aw (f := 15) rfl ?_); refine gl_ (some 100) rfl Try.func15 #[.slice A0 l0.length c0, .agg #[.int .i64 a1_0, .string a1_1, .int .i64 a1_2, .bool a1_3, .int .i64 a1_4, .string a1_5, .int .i64 a1_6, .string a1_7, .slice A1_8 l1_8.length c1_8], .slice Ao32 x9_2.length co32] ?_; (with_reducible refine (Ci.calls k3 _ _ l0 a1_0 a1_1 a1_2 a1_3 a1_4 a1_5 a1_6 a1_7 _ _ l1_8 _ _ x9_2 true _ ?side1 ?side2 ?side3 ?side4 ?side5 ?side6 A112.out).mono ?_); (case side1 => repeat (first | exact (Kd.C_below HR0.out HB.out) | (with_reducible refine Kd.C_alloc ?_ _) | (with_reducible refine Kd.C_drewN ?_ _) | (with_reducible refine Kd.C_drew ?_))); (case side2 => exact HC0.out); (case side3 => repeat (first | exact (Kd.C_below HR1_8.out HB.out) | (with_reducible refine Kd.C_alloc ?_ _) | (with_reducible refine Kd.C_drewN ?_ _) | (with_reducible refine Kd.C_drew ?_))); (case side4 => exact HC1_8.out); (case side5 => repeat (first | exact (Kd.R_reads' HO_9.out).2.2 | (with_reducible refine Kd.C_alloc ?_ _) | (with_reducible refine Kd.C_drewN ?_ _) | (with_reducible refine Kd.C_drew ?_))); (case side6 => exact (Kd.R_reads' HO_9.out).2.1); rintro e w123 ⟨rfl, hb⟩; refine ⟨_, rfl, ?_⟩; have n0_ := Aa.mk (Kd.R_below (by (with_reducible repeat (first | apply Kd.R_alloc | apply Kd.R_drewN | apply Kd.R_drew)); exact HO_7.out) hb); have n1_ := Aa.mk (Kd.R_below (by (with_reducible repeat (first | apply Kd.R_alloc | apply Kd.R_drewN | apply Kd.R_drew)); exact HO_9.out) hb); have n2_ := bk_ BK431 hb; have n3_ := bk_ BK461 hb; have n4_ := bs_ HB hb; clear HO_7; clear HO_9; clear BK431; clear BK461; clear HB; have HO_7 := n0_; have HO_9 := n1_; have BK431 := n2_; have BK461 := n3_; have HB := n4_; clear n0_ n1_ n2_ n3_ n4_; (try clear hb); (try clear hb2); (try clear hk); (try clear hi); obtain ⟨Ao124, co124, eo124⟩ := Kd.R_slice HO_7.out; subst eo124))
 go_ret
 exact en_ HB))
 ·(
 replace c113 := Dq c113
 subst c113
 have H1 : ((Bn.f k3).bind fun t467 => (some t467)) = some r := by rw [if_neg (show ¬ (false = true) by decide)] at H; exact H
 clear H
 have H := H1
 clear H1
 replace H := Dn H
 obtain ⟨t467, A1250, H⟩ := H
 replace H : (some t467) = some r := H
 have A125 := Aa.mk A1250
 clear A1250
 obtain rfl := Dp H
 have hnb126 := NB431_461.out
 have hnc126 := NB461_431.out
 obtain ⟨C127_0, C127_1, C127_2, C127_3, C127_4, C127_5, C127_6, C127_7, C127_8⟩ := cz9_ BK431.out
 obtain ⟨F127_0, F127_1, F127_2, F127_3, F127_4, F127_5, F127_6, F127_7, F127_8⟩ := fz9_ BK431.out
 go_wp2_with (first | ((with_reducible refine Aw (f := 15) rfl ?_); refine gl_ (some 100) rfl Try.func15 #[.slice A0 l0.length c0, .agg #[.int .i64 a1_0, .string a1_1, .int .i64 a1_2, .bool a1_3, .int .i64 a1_4, .string a1_5, .int .i64 a1_6, .string a1_7, .slice A1_8 l1_8.length c1_8], .slice Ao32 x9_2.length co32] ?_; (with_reducible refine (Ci.calls k3 _ _ l0 a1_0 a1_1 a1_2 a1_3 a1_4 a1_5 a1_6 a1_7 _ _ l1_8 _ _ x9_2 false _ ?side1 ?side2 ?side3 ?side4 ?side5 ?side6 A112.out).mono ?_); (case side1 => repeat (first | exact (Kd.C_below HR0.out HB.out) | (with_reducible refine Kd.C_alloc ?_ _) | (with_reducible refine Kd.C_drewN ?_ _) | (with_reducible refine Kd.C_drew ?_))); (case side2 => exact HC0.out); (case side3 => repeat (first | exact (Kd.C_below HR1_8.out HB.out) | (with_reducible refine Kd.C_alloc ?_ _) | (with_reducible refine Kd.C_drewN ?_ _) | (with_reducible refine Kd.C_drew ?_))); (case side4 => exact HC1_8.out); (case side5 => repeat (first | exact (Kd.R_reads' HO_9.out).2.2 | (with_reducible refine Kd.C_alloc ?_ _) | (with_reducible refine Kd.C_drewN ?_ _) | (with_reducible refine Kd.C_drew ?_))); (case side6 => exact (Kd.R_reads' HO_9.out).2.1); rintro e w128 ⟨rfl, hb⟩; refine ⟨_, rfl, ?_⟩; have n0_ := Aa.mk (Kd.R_below (by (with_reducible repeat (first | apply Kd.R_alloc | apply Kd.R_drewN | apply Kd.R_drew)); exact HO_7.out) hb); have n1_ := Aa.mk (Kd.R_below (by (with_reducible repeat (first | apply Kd.R_alloc | apply Kd.R_drewN | apply Kd.R_drew)); exact HO_9.out) hb); have n2_ := bk_ BK431 hb; have n3_ := bk_ BK461 hb; have n4_ := bs_ HB hb; clear HO_7; clear HO_9; clear BK431; clear BK461; clear HB; have HO_7 := n0_; have HO_9 := n1_; have BK431 := n2_; have BK461 := n3_; have HB := n4_; clear n0_ n1_ n2_ n3_ n4_; (try clear hb); (try clear hb2); (try clear hk); (try clear hi)) | (go_at_call 11; (with_reducible refine (Bn.calls k3  t467 _ A125.out).mono ?_); rintro e w129 ⟨rfl, hb⟩; have n0_ := Aa.mk (Kd.R_below (by (with_reducible repeat (first | apply Kd.R_alloc | apply Kd.R_drewN | apply Kd.R_drew)); exact HO_7.out) hb); have n1_ := Aa.mk (Kd.R_below (by (with_reducible repeat (first | apply Kd.R_alloc | apply Kd.R_drewN | apply Kd.R_drew)); exact HO_9.out) hb); have n2_ := bk_ BK431 hb; have n3_ := bk_ BK461 hb; have n4_ := bs_ HB hb; clear HO_7; clear HO_9; clear BK431; clear BK461; clear HB; have HO_7 := n0_; have HO_9 := n1_; have BK431 := n2_; have BK461 := n3_; have HB := n4_; clear n0_ n1_ n2_ n3_ n4_; (try clear hb); (try clear hb2); (try clear hk); (try clear hi)))
 go_ret
 exact en_ HB)))))
 ·(
 rw [if_neg c30] at H
 have c30b0 : (t462 == 0) = false := Dj c30
 have c30b1 : (t462 != 0) = true := Dm c30
 obtain rfl := Dp H
 obtain ⟨C130_0, C130_1, C130_2, C130_3, C130_4, C130_5, C130_6, C130_7, C130_8⟩ := cz9_ BK431.out
 obtain ⟨F130_0, F130_1, F130_2, F130_3, F130_4, F130_5, F130_6, F130_7, F130_8⟩ := fz9_ BK431.out
 obtain ⟨Ao131, co131, eo131⟩ := Kd.R_slice HO_9.out
 subst eo131
 go_wp2_with (first | ((with_reducible refine Aw (f := 12) rfl ?_); refine gl_ (some 53) rfl Try.func12 #[.slice A0 l0.length c0, .agg #[.int .i64 a1_0, .string a1_1, .int .i64 a1_2, .bool a1_3, .int .i64 a1_4, .string a1_5, .int .i64 a1_6, .string a1_7, .slice A1_8 l1_8.length c1_8], .slice Ao131 x9_2.length co131] ?_; (with_reducible refine (Bo.calls k2 _ _ l0 a1_0 a1_1 a1_2 a1_3 a1_4 a1_5 a1_6 a1_7 _ _ l1_8 _ _ x9_2 t457 t458 t459 t460 _ ?side1 ?side2 ?side3 ?side4 ?side5 ?side6 A28.out).mono ?_); (case side1 => repeat (first | exact (Kd.C_below HR0.out HB.out) | (with_reducible refine Kd.C_alloc ?_ _) | (with_reducible refine Kd.C_drewN ?_ _) | (with_reducible refine Kd.C_drew ?_))); (case side2 => exact HC0.out); (case side3 => repeat (first | exact (Kd.C_below HR1_8.out HB.out) | (with_reducible refine Kd.C_alloc ?_ _) | (with_reducible refine Kd.C_drewN ?_ _) | (with_reducible refine Kd.C_drew ?_))); (case side4 => exact HC1_8.out); (case side5 => repeat (first | exact (Kd.R_reads' HO_9.out).2.2 | (with_reducible refine Kd.C_alloc ?_ _) | (with_reducible refine Kd.C_drewN ?_ _) | (with_reducible refine Kd.C_drew ?_))); (case side6 => exact (Kd.R_reads' HO_9.out).2.1); rintro e w132 ⟨rfl, hb⟩; refine ⟨_, rfl, ?_⟩; have n0_ := Aa.mk (Kd.R_below (by (with_reducible repeat (first | apply Kd.R_alloc | apply Kd.R_drewN | apply Kd.R_drew)); exact HO_7.out) hb); have n1_ := Aa.mk (Kd.R_below (by (with_reducible repeat (first | apply Kd.R_alloc | apply Kd.R_drewN | apply Kd.R_drew)); exact HO_9.out) hb); have n2_ := bk_ BK431 hb; have n3_ := bs_ HB hb; clear HO_7; clear HO_9; clear BK431; clear HB; have HO_7 := n0_; have HO_9 := n1_; have BK431 := n2_; have HB := n3_; clear n0_ n1_ n2_ n3_; (try clear hb); (try clear hb2); (try clear hk); (try clear hi)) | ((with_reducible refine Cv (N := 11) rfl ?_); (try (refine Cy (by rfl) ?_; dsimp only)); refine bx_ (N := 11) (cs := #[.bool false, .bool false, .bool false]) (t := 35) ?_; intro gb461 hg w133 hbox hb; have n0_ := Aa.mk (Kd.R_below (by (with_reducible repeat (first | apply Kd.R_alloc | apply Kd.R_drewN | apply Kd.R_drew)); exact HO_7.out) hb); have n1_ := Aa.mk (Kd.R_below (by (with_reducible repeat (first | apply Kd.R_alloc | apply Kd.R_drewN | apply Kd.R_drew)); exact HO_9.out) hb); have n2_ := bk_ BK431 hb; have n3_ := bs_ HB hb; have n4_ := Aa.mk (hbox); have n5_ := ge_ HB hg; have n6_ := ge_ HB hg; have n7_ := lt_ BK431 hg; have n8_ := gt_ BK431 hg; clear HO_7; clear HO_9; clear BK431; clear HB; have HO_7 := n0_; have HO_9 := n1_; have BK431 := n2_; have HB := n3_; have BK461 := n4_; have GW461 := n5_; have GE461 := n6_; have NB431_461 := n7_; have NB461_431 := n8_; clear n0_ n1_ n2_ n3_ n4_ n5_ n6_ n7_ n8_; clear hb hbox hg; have hnb134 := NB461_431.out; have hnc134 := NB431_461.out; obtain ⟨C135_0, C135_1, C135_2⟩ := zc3_ BK461.out; obtain ⟨F135_0, F135_1, F135_2⟩ := zf3_ BK461.out) | ((with_reducible refine Aw (f := 14) rfl ?_); refine gl_ (some 57) rfl Try.func14 #[.int .i64 t460] ?_; (with_reducible refine (Ch.calls t460 t462 _ A29.out).mono ?_); rintro e w' ⟨rfl, ⟨nd, rfl⟩⟩; refine ⟨_, rfl, ?_⟩))
 go_ret
 exact en_ HB)))))
 ·(
 rw [if_neg c15] at H
 have c15b0 : (t438 == 0) = false := Dj c15
 have c15b1 : (t438 != 0) = true := Dm c15
 replace H := Dn H
 obtain ⟨t439, A1360, H⟩ := H
 replace H : (some t439) = some r := H
 have A136 := Aa.mk A1360
 clear A1360
 obtain rfl := Dp H
 obtain ⟨C137_0, C137_1, C137_2, C137_3, C137_4, C137_5, C137_6, C137_7, C137_8⟩ := cz9_ BK431.out
 obtain ⟨F137_0, F137_1, F137_2, F137_3, F137_4, F137_5, F137_6, F137_7, F137_8⟩ := fz9_ BK431.out
 go_wp2_with (first | ((with_reducible refine Aw (f := 17) rfl ?_); refine gl_ (some 29) rfl Try.func17 #[.slice A0 l0.length c0, .agg #[.int .i64 a1_0, .string a1_1, .int .i64 a1_2, .bool a1_3, .int .i64 a1_4, .string a1_5, .int .i64 a1_6, .string a1_7, .slice A1_8 l1_8.length c1_8], .slice A2 l2.length c2] ?_; (with_reducible refine (Ba.calls kj3 _ _ l0 a1_0 a1_1 a1_2 a1_3 a1_4 a1_5 a1_6 a1_7 _ _ l1_8 _ _ l2 t435 t438 _ ?side1 ?side2 ?side3 ?side4 ?side5 ?side6 A14.out).mono ?_); (case side1 => repeat (first | exact (Kd.C_below HR0.out HB.out) | (with_reducible refine Kd.C_alloc ?_ _) | (with_reducible refine Kd.C_drewN ?_ _) | (with_reducible refine Kd.C_drew ?_))); (case side2 => exact HC0.out); (case side3 => repeat (first | exact (Kd.C_below HR1_8.out HB.out) | (with_reducible refine Kd.C_alloc ?_ _) | (with_reducible refine Kd.C_drewN ?_ _) | (with_reducible refine Kd.C_drew ?_))); (case side4 => exact HC1_8.out); (case side5 => repeat (first | exact (Kd.C_below HR2.out HB.out) | (with_reducible refine Kd.C_alloc ?_ _) | (with_reducible refine Kd.C_drewN ?_ _) | (with_reducible refine Kd.C_drew ?_))); (case side6 => exact HC2.out); rintro e w138 ⟨v436, rfl, ho0, hb⟩; refine ⟨_, rfl, ?_⟩; have HO437 := Aa.mk (Kd.R_lower ho0 (Ca (by repeat (first | (with_reducible first | exact HB.out | apply Ak | apply Ah | apply Aj | refine Ao ?_ GE431.out) | exact HB.out)))); replace BK431 := bk_ BK431 hb; replace HB := bs_ HB hb; (try clear hb); (try clear hb2); (try clear hk); (try clear hi); (try clear ho0)) | ((with_reducible refine Aw (f := 11) rfl ?_); refine gl_ (some 34) rfl Try.func11 #[] ?_; (with_reducible refine (Bn.calls kj3  t439 _ A136.out).mono ?_); rintro e w139 ⟨rfl, hb⟩; refine ⟨_, rfl, ?_⟩; have n0_ := Aa.mk (Kd.R_below (by (with_reducible repeat (first | apply Kd.R_alloc | apply Kd.R_drewN | apply Kd.R_drew)); exact HO437.out) hb); have n1_ := bk_ BK431 hb; have n2_ := bs_ HB hb; clear HO437; clear BK431; clear HB; have HO437 := n0_; have BK431 := n1_; have HB := n2_; clear n0_ n1_ n2_; (try clear hb); (try clear hb2); (try clear hk); (try clear hi)))
 go_ret
 exact en_ HB))))
theorem safe_true (l : List S64) (l2 : List (List S24)) (x : S27) (hll : l.length ≤ 9223372036854775807) (h2l : l2.length ≤ 9223372036854775807) :
    TotP (fun r => r = true) (fun k => Ac.f k l x.f0 x.f1 x.f2 x.f3.f0 x.f3.f1 x.f3.f2 x.f4 x.f5 x.f6 l2) := by
 have L : TotP (fun r => r = true) (fun k => (Bn.f k).bind fun t => some t) := TotP.bind live_tot (fun r hr => TotP.some_ hr)
 have out : ∀ b : Bool, b = true → TotP (fun r => r = true) (fun k => Ac.j0 k l l2 b x.f0 x.f1 x.f2 x.f3.f0 x.f3.f1 x.f3.f2 x.f4 x.f5 x.f6) := by(
 intro b hb
 refine TotP.succ (fun k => by simp only [Ac.j0]; rfl) ?_
 exact TotP.ite (fun _ => L) (fun h => absurd hb h))
 unfold Ac.f
 refine TotP.bind (small13' l l2 hll h2l) (fun t ht => ?_)
 refine TotP.ite (fun htt => ?_) (fun _ => out true rfl)
 obtain ⟨⟨hl, hs⟩, h2⟩ := ht htt
 refine TotP.bind (smallF 9 x (by omega)) (fun u hu => ?_)
 cases u with
 | false => exact out _ rfl
 | true =>(
 have hF := Fine.le 6 9 x (by omega) (hu rfl)
 have hL := Fine.lens 6 x hF
 have hs' : ∀ y, y ∈ l → y.f0.size ≤ 9223372036854775806 := fun y hy => by have := hs y hy; omega
 refine TotP.succ (fun k => by simp only [Ac.j0]; rfl) ?_
 refine TotP.ite (fun h => by cases h) (fun _ => ?_)
 refine TotP.bind (refRows l x l2 (by omega) hs' h2 hF) (fun a ha => ?_)
 refine TotP.ite (fun ha0 => ?_) (fun _ => L)
 have hfit : fitsE l x = 0 := by(
 unfold ansR at ha
 by_cases h : fitsE l x = 0
 ·exact h
 ·rw [if_neg h] at ha; rw [ha] at ha0; exact absurd ha0 h)
 have haA : a = rowsA (ansE l x) l2 0 [] := by rw [ha, ansR, if_pos hfit]
 have hrow : ∀ r, r ∈ l2 → rowB l r = true ∧ (ansE l x r).1 = ask3 l r 6 x := by(
 intro r hr
 have := rowsA_fit (ansE l x) l2 0 [] (by rw [← haA]; exact ha0) r hr
 unfold ansE at this ⊢
 rw [if_pos hfit] at this ⊢
 by_cases hb : rowB l r = true
 ·rw [if_pos hb]; exact ⟨hb, rfl⟩
 ·rw [if_neg hb] at this; simp at this)
 obtain ⟨hgm, hgt⟩ := fits_good l x hfit
 have hty := check_ty l (fits_check l x hfit)
 have hzl : (zonesOf l l2).length = l.length := by simp [zonesOf]
 have hT : askE l (zonesOf l l2) x = ((askR l (zonesOf l l2) 6 x).1, (askR l (zonesOf l l2) 6 x).2.1, (askR l (zonesOf l l2) 6 x).2.2, 0) := by(
 unfold askE
 rw [if_pos hfit, if_pos hzl, hzl, zones_ok l l2 hty (by omega) (fun r hr => (hrow r hr).1) l.length 0 (by omega)]
 rfl)
 have hmay : ∀ r, r ∈ l2 → mayT (askR l (zonesOf l l2) 6 x) (ask3 l r 6 x) := by(
 intro r hr
 obtain ⟨e1, e2⟩ := row_may l r (hrow r hr).1
 refine ask_safe l r (zonesOf l l2) e1 e2 (fun i hi => ?_) 6 x hgm hgt
 rw [zones_at l l2 i hi]
 exact ofZ_cov _ _ (List.mem_map.2 ⟨r, hr, rfl⟩))
 have hask := askA l (zonesOf l l2) x (by omega) hL
 rw [hT] at hask
 generalize hTT : askR l (zonesOf l l2) 6 x = T at hask hmay
 have hskip : TotP (fun s => s = !T.1) (fun k => Ci.f k l x.f0 x.f1 x.f2 x.f3.f0 x.f3.f1 x.f3.f2 x.f4 x.f5 x.f6 (zonesOf l l2)) := by(
 unfold Ci.f
 refine TotP.bind hask (fun b hb => ?_)
 subst hb
 refine TotP.ite (fun _ => ?_) (fun h => absurd rfl h)
 simp only [prune_none.f, Option.bind_some]
 exact TotP.some_ rfl)
 have key2 : ∀ (n i : Nat), i + n = l2.length → TotP (fun r => r = true) (fun k => Ac.l1 k l l2 a.1 (zonesOf l l2) (i : Int) x.f0 x.f1 x.f2 x.f3.f0 x.f3.f1 x.f3.f2 x.f4 x.f5 x.f6 T.1 T.2.1 T.2.2) := by(
 intro n
 induction n with
 | zero =>(
 intro i hi
 refine TotP.succ (fun k => by simp only [Ac.l1]; rfl) ?_
 refine TotP.ite (fun h => absurd h (by omega)) (fun _ => ?_)
 refine TotP.bind hskip (fun s hsv => ?_)
 refine TotP.ite (fun hst => ?_) (fun _ => L)
 refine TotP.ite (fun _ => L) (fun hne => ?_)
 exfalso
 apply hne
 have hT1 : T.1 = false := by rw [hsv] at hst; simpa using hst
 rw [haA, rowsA_none (ansE l x) l2 0 (by rw [← haA]; exact ha0) (fun r hr h1 => ?_)]
 ·rfl
 ·(
 rw [(hrow r hr).2] at h1
 have := (hmay r hr).1 h1
 rw [hT1] at this
 cases this))
 | succ n ih =>(
 intro i hi
 have hr : rd_L8 l2 (i : Int) = l2[i]'(by omega) := rdL8_get l2 i (by omega)
 have hmem : rd_L8 l2 (i : Int) ∈ l2 := by rw [hr]; exact List.getElem_mem _
 obtain ⟨e1, e2⟩ := row_may l _ (hrow _ hmem).1
 have hm := hmay _ hmem
 have hnext := ih (i + 1) (by omega)
 rw [show ((i + 1 : Nat) : Int) = wrap64 ((i : Int) + 1) by rw [wrap_in (by omega) (by omega)]; omega] at hnext
 refine TotP.succ (fun k => by simp only [Ac.l1]; rfl) ?_
 refine TotP.ite (fun _ => ?_) (fun h => absurd (by omega) h)
 refine TotP.ite (fun _ => ?_) (fun h => absurd (by omega) h)
 refine TotP.bind (truth20 l (rd_L8 l2 (i : Int)) e1 (by omega) e2 6 x hL hgm hgt) (fun t ht => ?_)
 rw [← ht] at hm
 obtain ⟨m1, m0, m2, _, _⟩ := hm
 refine TotP.ite (fun t1 => ?_) (fun t1 => ?_)
 ·(
 refine TotP.ite (fun _ => ?_) (fun h => absurd (m1 t1) h)
 refine TotP.ite (fun h => absurd h (by omega)) (fun _ => ?_)
 refine TotP.ite (fun h => absurd h (by omega)) (fun _ => ?_)
 exact hnext)
 ·(
 refine TotP.ite (fun t0 => ?_) (fun t0 => ?_)
 ·(
 refine TotP.ite (fun _ => ?_) (fun h => absurd (m0 t0) h)
 refine TotP.ite (fun h => absurd h (by omega)) (fun _ => ?_)
 exact hnext)
 ·(
 refine TotP.ite (fun t2 => ?_) (fun t2 => ?_)
 ·(
 refine TotP.ite (fun _ => ?_) (fun h => absurd (m2 t2) h)
 exact hnext)
 ·exact hnext))))
 have key : ∀ (n i : Nat), i + n = l.length → TotP (fun r => r = true) (fun k => Ac.l0 k l l2 a.1 ((zonesOf l l2).take i) (i : Int) x.f0 x.f1 x.f2 x.f3.f0 x.f3.f1 x.f3.f2 x.f4 x.f5 x.f6) := by(
 intro n
 induction n with
 | zero =>(
 intro i hi
 refine TotP.succ (fun k => by simp only [Ac.l0]; rfl) ?_
 refine TotP.ite (fun h => absurd h (by omega)) (fun _ => ?_)
 rw [List.take_of_length_le (by omega)]
 refine TotP.bind hask (fun b hb => ?_)
 subst hb
 simp only [Ch.f, Option.bind_some]
 refine TotP.ite (fun _ => ?_) (fun h => absurd trivial h)
 exact key2 l2.length 0 (by omega))
 | succ n ih =>(
 intro i hi
 have hnext := ih (i + 1) (by omega)
 rw [show ((i + 1 : Nat) : Int) = wrap64 ((i : Int) + 1) by rw [wrap_in (by omega) (by omega)]; omega] at hnext
 refine TotP.succ (fun k => by simp only [Ac.l0]; rfl) ?_
 refine TotP.ite (fun _ => ?_) (fun h => absurd (by omega) h)
 refine TotP.bind (cells_tot l2 i (by omega) (fun r hr => by have := (row_may l r (hrow r hr).1).1; omega)) (fun c hc => ?_)
 subst hc
 refine TotP.bind (of_tot _ (by rw [List.length_map]; omega)) (fun z hz => ?_)
 subst hz
 refine TotP.ite (fun _ => ?_) (fun h => absurd (by rw [List.length_take]; omega) h)
 have hz : (zonesOf l l2)[i]? = some (ofZ (l2.map fun row => Ax row (i : Int))) := by(
 unfold zonesOf
 rw [List.getElem?_map, List.getElem?_range (by omega)]
 rfl)
 rw [List.take_add_one, hz] at hnext
 exact hnext))
 exact key l.length 0 (by omega))
open Go.ChangeShapes Go.WideShapes Go.ChangeAt
theorem prog_own : ownKnob Try.prog.godebug = none := by kernel_rfl
theorem prog_laid : laidOutB Try.prog = true := by kernel_rfl
theorem slice_open {w : World} {α : Type} {d : Kd α} {e : Nat} {l : List α} {cs : List Value} (h : (Kd.slice e d).K w l cs) : ∃ A c, cs = [.slice A l.length c] ∧ l.length ≤ c ∧ d.C w A l.length l := h
set_option maxRecDepth 100000 in
theorem pruneSafe_lifted (os : Os) (started : os.Started) (H : Type) (enc : TypeId × Value → H) :
    ReturnsInHanded {} Try.checked os 4 .any (Rows.pruneSafeSpec.pre6 enc Try.prog Try.f4 Rows.pruneSafeRow.domain false) (Rows.pruneSafeSpec.post enc Try.prog Try.f4 false true false false) := by
 refine returnsInHanded_of_change_sized (C := Try.checked) prog_own started (by kernel_rfl) Try.func4
  (ChangeSpec.witness6 (enc := enc) (C := Try.checked) false ⟨#[], #[.slice none 0 0, .agg #[.int .i64 0, .string ByteArray.empty, .int .i64 0, .bool false, .int .i64 0, .string ByteArray.empty, .int .i64 0, .string ByteArray.empty, .slice none 0 0], .slice none 0 0], []⟩ 8 (by kernel_rfl) (by kernel_rfl) (by kernel_rfl) (by kernel_rfl)) ?_
 intro W base args ds gs before hval0 hW hcnd hsz0 _
 have hval : ∀ (j : Nat) t v, Try.f4.params[j]? = some t → args[j]? = some v → Value.okWide Try.prog W .any base t v := hval0
 have hW' := hW
 obtain ⟨p, q, hA0, hV, rfl, hfz, hnd⟩ := hW
 have hA : DataW.TrodAll enc Try.prog W 0 (fun _ => true) true Try.f4.params.toList args.toList ds p := hA0
 rw [Try.params4] at hA hval
 obtain ⟨v0, vs0, d0, ds0, p0, q0, hargs, rfl, rfl, h0, r0⟩ := trodAll_cons hA
 obtain ⟨v1, vs1, d1, ds1, p1, q1, rfl, rfl, rfl, h1, r1⟩ := trodAll_cons r0
 obtain ⟨v2, vs2, d2, ds2, p2, q2, rfl, rfl, rfl, h2, r2⟩ := trodAll_cons r1
 obtain ⟨rfl, rfl, rfl⟩ := trodAll_nil r2
 obtain rfl : args = #[v0, v1, v2] := by cases args; simp_all
 obtain ⟨rfl, rfl⟩ := trodVars_none hV
 obtain ⟨a0, len0, cap0, rfl⟩ := okWide_slice Try.underlying22 (hval 0 22 v0 rfl rfl)
 obtain ⟨cs1, rfl, _⟩ := okWide_struct Try.underlying27 (hval 1 27 v1 rfl rfl)
 obtain ⟨a2, len2, cap2, rfl⟩ := okWide_slice Try.underlying44 (hval 2 44 v2 rfl rfl)
 have lt0 : ∀ x ∈ p0, x.block < W.heap.size := by obtain ⟨m, hm⟩ := h0; exact DataW.trod_lt m _ _ _ hm
 have lt1 : ∀ x ∈ p1, x.block < W.heap.size := by obtain ⟨m, hm⟩ := h1; exact DataW.trod_lt m _ _ _ hm
 have lt2 : ∀ x ∈ p2, x.block < W.heap.size := by obtain ⟨m, hm⟩ := h2; exact DataW.trod_lt m _ _ _ hm
 obtain ⟨l0, A0, c0, e0, hc0, hr0⟩ : ∃ (l0 : List S64) (A0 : Option Addr) (c0 : Nat), Value.slice a0 len0 cap0 = .slice A0 l0.length c0 ∧ l0.length ≤ c0 ∧ Kd.C k64 W A0 l0.length l0 := by(
 obtain ⟨m, hm⟩ := h0
 obtain ⟨l, hl, _⟩ := (opens_slice Try.underlying22 (by kernel_rfl) (opens64 m)).go H enc W 0 _ true m _ _ (by omega) hm
 obtain ⟨A, c, hcs, hle, hC⟩ := slice_open hl
 exact ⟨l, A, c, by simpa [Value.cells] using hcs, hle, hC⟩)
 obtain ⟨l2, A2, c2, e2, hc2, hr2⟩ : ∃ (l2 : List (List S24)) (A2 : Option Addr) (c2 : Nat), Value.slice a2 len2 cap2 = .slice A2 l2.length c2 ∧ l2.length ≤ c2 ∧ Kd.C (Kd.slice 24 k24) W A2 l2.length l2 := by(
 obtain ⟨m, hm⟩ := h2
 obtain ⟨l, hl, _⟩ := (opens_slice Try.underlying44 (by kernel_rfl) (opens_slice Try.underlying50 (by kernel_rfl) (opens24 m))).go H enc W 0 _ true m _ _ (by omega) hm
 obtain ⟨A, c, hcs, hle, hC⟩ := slice_open hl
 exact ⟨l, A, c, by simpa [Value.cells] using hcs, hle, hC⟩)
 obtain ⟨x, A8, c8, e1, hc8, hr8⟩ : ∃ (x : S27) (A8 : Option Addr) (c8 : Nat), Value.agg cs1 = .agg #[.int .i64 x.f0, .string x.f1, .int .i64 x.f2, .bool x.f3.f0, .int .i64 x.f3.f1, .string x.f3.f2, .int .i64 x.f4, .string x.f5, .slice A8 x.f6.length c8] ∧ x.f6.length ≤ c8 ∧ Kd.C k27 W A8 x.f6.length x.f6 := by(
 obtain ⟨m, hm⟩ := h1
 obtain ⟨x, hx, _⟩ := (opens27 m).go H enc W 0 _ true m _ _ (by omega) hm
 obtain ⟨A, c, hcs, hle, hC⟩ := k27_open hx
 refine ⟨x, A, c, ?_, hle, hC⟩
 have : cs1.toList = _ := hcs
 cases cs1
 simp_all)
 rw [e0] at h0
 rw [e1] at h1
 rw [e2] at h2
 rw [e0, e1, e2]
 clear hA0 hval0 hsz0
 obtain ⟨r, ⟨k, hk⟩, hr⟩ := safe_true l0 l2 x (Kd.C_max hr0) (Kd.C_max hr2)
 subst hr
 refine (Ac.calls k A0 c0 l0 x.f0 x.f1 x.f2 x.f3.f0 x.f3.f1 x.f3.f2 x.f4 x.f5 A8 c8 x.f6 A2 c2 l2 true W hr0 hc0 hr8 hc8 hr2 hc2 (hk k (Nat.le_refl _))).mono fun e W' ⟨he, bel⟩ => ?_
 subst he
 have hb0 := Below.trod prog_laid (by kernel_rfl) (of_decide_eq_true (by kernel_rfl)) h0 bel lt0
 have hb1 := Below.trod prog_laid (by kernel_rfl) (of_decide_eq_true (by kernel_rfl)) h1 bel lt1
 have hb2 := Below.trod prog_laid (by kernel_rfl) (of_decide_eq_true (by kernel_rfl)) h2 bel lt2
 rw [e0, e1, e2] at hW'
 exact ⟨_, rfl, _, _, _, [], _, [], hW', trodAll_mk1 (shut_bool Try.underlying4 _), (trodAll_cons_mk hb0 (trodAll_cons_mk hb1 (trodAll_cons_mk hb2 trodAll_mk0))), rfl, bel.frame _, fun h => by cases h⟩
theorem pruneSafe_holds : Rows.PruneSafeSaid :=
  OpenClaim.holds_of_wide 4 Try.f4 rfl rfl rfl rfl rfl rfl rfl ⟨rfl, rfl, rfl, rfl, rfl⟩ rfl rfl rfl rfl rfl (by kernel_rfl) Try.func4 (by kernel_rfl)
    (of_decide_eq_true (by kernel_rfl)) (by unfold Func.isWrapper; first | (rw [if_pos (by decide +kernel)]; kernel_rfl) | (rw [if_neg (by decide +kernel)]; exact ⟨rfl, rfl⟩))
    (fun os started H enc _ => pruneSafe_lifted os started H enc)
end Go.Proofs.Ytdedmhmomoejkaa.X
