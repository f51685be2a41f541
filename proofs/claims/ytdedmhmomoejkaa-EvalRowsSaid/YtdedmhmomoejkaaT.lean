/- EvalRows: of whatever columns, predicate and rows, the law function answers true: which rows a predicate is so of, and how it is of each, is as the document says. No condition beyond the row's own. -/
import Derived.Test.YtdedmhmomoejkaaT2
import Derived.Test.YtdedmhmomoejkaaT4
import Derived.Test.YtdedmhmomoejkaaT7
import Derived.Test.YtdedmhmomoejkaaT10
import Derived.Test.YtdedmhmomoejkaaT11
import Derived.Test.YtdedmhmomoejkaaT12
import Derived.Test.YtdedmhmomoejkaaT13
import Derived.Test.YtdedmhmomoejkaaRows
import Derived.WalkKit
import Derived.OpenShut
import Derived.ShutString
import Derived.ChangeOld
import Derived.Below
import Derived.SizedLaws
namespace Go.Proofs.Ytdedmhmomoejkaa.X
open Go.RowKit Go.Proofs.YtdedmhmomoejkaaW.PrintWords Go.Proofs.YtdedmhmomoejkaaW.PrintLast Go.Proofs.YtdedmhmomoejkaaW.PrintMore
attribute [local go_sem] max2_int max_two
set_option linter.unusedVariables false
set_option linter.unusedSimpArgs false
mutual
def firkinlaw20_EvalRows.j0 : Nat → List (S64) → List (List (S24)) → Bool → Int → ByteArray → Int → Bool → Int → ByteArray → Int → ByteArray → List (S27) → Option (Bool)
 | 0, _, _, _, _, _, _, _, _, _, _, _, _ => none
 | k + 1, x0, x2, x24, x560000, x560001, x560002, x560003, x560004, x560005, x560006, x560007, x560008 => if x24 = true then ((firkinlaw20_live.f k).bind fun t562 => (some t562)) else ((eval_Rows.f k x0 x560000 x560001 x560002 x560003 x560004 x560005 x560006 x560007 x560008 x2).bind fun bt563 => ((firkinref20_Rows.f k x0 x560000 x560001 x560002 x560003 x560004 x560005 x560006 x560007 x560008 x2).bind fun bt567 => ((firkinlaw20_num.f bt563.2).bind fun t571 => (if t571 = bt567.2 then ((firkinref01_Ints.f k bt563.1 bt567.1).bind fun t572 => (firkinlaw20_EvalRows.j1 k x0 x2 (!t572) x560000 x560001 x560002 x560003 x560004 x560005 x560006 x560007 x560008)) else (firkinlaw20_EvalRows.j1 k x0 x2 true x560000 x560001 x560002 x560003 x560004 x560005 x560006 x560007 x560008)))))
def firkinlaw20_EvalRows.j1 : Nat → List (S64) → List (List (S24)) → Bool → Int → ByteArray → Int → Bool → Int → ByteArray → Int → ByteArray → List (S27) → Option (Bool)
 | 0, _, _, _, _, _, _, _, _, _, _, _, _ => none
 | k + 1, x0, x2, x49, x560000, x560001, x560002, x560003, x560004, x560005, x560006, x560007, x560008 => if x49 = true then (some false) else (firkinlaw20_EvalRows.l0 k x0 x2 0 x560000 x560001 x560002 x560003 x560004 x560005 x560006 x560007 x560008)
def firkinlaw20_EvalRows.l0 : Nat → List (S64) → List (List (S24)) → Int → Int → ByteArray → Int → Bool → Int → ByteArray → Int → ByteArray → List (S27) → Option (Bool)
 | 0, _, _, _, _, _, _, _, _, _, _, _, _ => none
 | k + 1, x0, x2, x11, x560000, x560001, x560002, x560003, x560004, x560005, x560006, x560007, x560008 => if x11 < (x2.length : Int) then (if 0 ≤ x11 then ((eval_Row.f k x0 x560000 x560001 x560002 x560003 x560004 x560005 x560006 x560007 x560008 (rd_L8 x2 x11)).bind fun bt575 => ((firkinref20_Row.f k x0 x560000 x560001 x560002 x560003 x560004 x560005 x560006 x560007 x560008 (rd_L8 x2 x11)).bind fun bt578 => (if bt575.1 = bt578.1 then ((firkinlaw20_num.f bt575.2).bind fun t580 => (if t580 = bt578.2 then (firkinlaw20_EvalRows.l0 k x0 x2 (wrap64 (x11 + 1)) x560000 x560001 x560002 x560003 x560004 x560005 x560006 x560007 x560008) else (some false))) else (some false)))) else (none)) else ((firkinlaw20_live.f k).bind fun t573 => (some t573))
end
def firkinlaw20_EvalRows.f (k : Nat) (l0 : List (S64)) (a1_0 : Int) (a1_1 : ByteArray) (a1_2 : Int) (a1_3 : Bool) (a1_4 : Int) (a1_5 : ByteArray) (a1_6 : Int) (a1_7 : ByteArray) (l1_8 : List (S27)) (l2 : List (List (S24))) : Option (Bool) := (firkinlaw13_Small.f k l0 l2).bind fun t560 => (if t560 = true then ((firkinref17_Small.f k a1_0 a1_1 a1_2 a1_3 a1_4 a1_5 a1_6 a1_7 l1_8 9).bind fun t561 => (firkinlaw20_EvalRows.j0 k l0 l2 (!t561) a1_0 a1_1 a1_2 a1_3 a1_4 a1_5 a1_6 a1_7 l1_8)) else (firkinlaw20_EvalRows.j0 k l0 l2 true a1_0 a1_1 a1_2 a1_3 a1_4 a1_5 a1_6 a1_7 l1_8))
theorem firkinlaw20_EvalRows.mono_l : ∀ k, (∀ y0 y1 y2 y3 y4 y5 y6 y7 y8 y9 y10 y11, LeO (firkinlaw20_EvalRows.j0 k y0 y1 y2 y3 y4 y5 y6 y7 y8 y9 y10 y11) (firkinlaw20_EvalRows.j0 (k + 1) y0 y1 y2 y3 y4 y5 y6 y7 y8 y9 y10 y11)) ∧ (∀ y0 y1 y2 y3 y4 y5 y6 y7 y8 y9 y10 y11, LeO (firkinlaw20_EvalRows.j1 k y0 y1 y2 y3 y4 y5 y6 y7 y8 y9 y10 y11) (firkinlaw20_EvalRows.j1 (k + 1) y0 y1 y2 y3 y4 y5 y6 y7 y8 y9 y10 y11)) ∧ (∀ y0 y1 y2 y3 y4 y5 y6 y7 y8 y9 y10 y11, LeO (firkinlaw20_EvalRows.l0 k y0 y1 y2 y3 y4 y5 y6 y7 y8 y9 y10 y11) (firkinlaw20_EvalRows.l0 (k + 1) y0 y1 y2 y3 y4 y5 y6 y7 y8 y9 y10 y11))
 | 0 => ⟨fun _ _ _ _ _ _ _ _ _ _ _ _ r h => by simp [firkinlaw20_EvalRows.j0] at h, fun _ _ _ _ _ _ _ _ _ _ _ _ r h => by simp [firkinlaw20_EvalRows.j1] at h, fun _ _ _ _ _ _ _ _ _ _ _ _ r h => by simp [firkinlaw20_EvalRows.l0] at h⟩
 | k + 1 => by
  obtain ⟨ih0, ih1, ih2⟩ := firkinlaw20_EvalRows.mono_l k
  refine ⟨?_, ?_, ?_⟩
  ·intro y0 y1 y2 y3 y4 y5 y6 y7 y8 y9 y10 y11
   unfold firkinlaw20_EvalRows.j0
   repeat' first
   | (with_reducible exact ih0 _ _ _ _ _ _ _ _ _ _ _ _)
   | (with_reducible exact ih1 _ _ _ _ _ _ _ _ _ _ _ _)
   | (with_reducible exact ih2 _ _ _ _ _ _ _ _ _ _ _ _)
   | (with_reducible exact eval_Row.mono _ _ _ _ _ _ _ _ _ _ _ _)
   | (with_reducible exact eval_Rows.mono _ _ _ _ _ _ _ _ _ _ _ _)
   | (with_reducible exact firkinlaw13_Small.mono _ _ _)
   | (with_reducible exact firkinlaw20_live.mono _)
   | (with_reducible exact firkinref01_Ints.mono _ _ _)
   | (with_reducible exact firkinref17_Small.mono _ _ _ _ _ _ _ _ _ _ _)
   | (with_reducible exact firkinref20_Row.mono _ _ _ _ _ _ _ _ _ _ _ _)
   | (with_reducible exact firkinref20_Rows.mono _ _ _ _ _ _ _ _ _ _ _ _)
   | (with_reducible exact LeO.refl _)
   | (with_reducible exact LeO.none _)
   | (with_reducible refine LeO.ite ?_ ?_)
   | (with_reducible refine LeO.bind ?_ (fun _ => ?_))
   | exact ih0 _ _ _ _ _ _ _ _ _ _ _ _
   | exact ih1 _ _ _ _ _ _ _ _ _ _ _ _
   | exact ih2 _ _ _ _ _ _ _ _ _ _ _ _
   | exact eval_Row.mono _ _ _ _ _ _ _ _ _ _ _ _
   | exact eval_Rows.mono _ _ _ _ _ _ _ _ _ _ _ _
   | exact firkinlaw13_Small.mono _ _ _
   | exact firkinlaw20_live.mono _
   | exact firkinref01_Ints.mono _ _ _
   | exact firkinref17_Small.mono _ _ _ _ _ _ _ _ _ _ _
   | exact firkinref20_Row.mono _ _ _ _ _ _ _ _ _ _ _ _
   | exact firkinref20_Rows.mono _ _ _ _ _ _ _ _ _ _ _ _
   | exact LeO.none _
   | refine LeO.ite ?_ ?_
   | refine LeO.bind ?_ (fun _ => ?_)
  ·intro y0 y1 y2 y3 y4 y5 y6 y7 y8 y9 y10 y11
   unfold firkinlaw20_EvalRows.j1
   repeat' first
   | (with_reducible exact ih0 _ _ _ _ _ _ _ _ _ _ _ _)
   | (with_reducible exact ih1 _ _ _ _ _ _ _ _ _ _ _ _)
   | (with_reducible exact ih2 _ _ _ _ _ _ _ _ _ _ _ _)
   | (with_reducible exact eval_Row.mono _ _ _ _ _ _ _ _ _ _ _ _)
   | (with_reducible exact eval_Rows.mono _ _ _ _ _ _ _ _ _ _ _ _)
   | (with_reducible exact firkinlaw13_Small.mono _ _ _)
   | (with_reducible exact firkinlaw20_live.mono _)
   | (with_reducible exact firkinref01_Ints.mono _ _ _)
   | (with_reducible exact firkinref17_Small.mono _ _ _ _ _ _ _ _ _ _ _)
   | (with_reducible exact firkinref20_Row.mono _ _ _ _ _ _ _ _ _ _ _ _)
   | (with_reducible exact firkinref20_Rows.mono _ _ _ _ _ _ _ _ _ _ _ _)
   | (with_reducible exact LeO.refl _)
   | (with_reducible exact LeO.none _)
   | (with_reducible refine LeO.ite ?_ ?_)
   | (with_reducible refine LeO.bind ?_ (fun _ => ?_))
   | exact ih0 _ _ _ _ _ _ _ _ _ _ _ _
   | exact ih1 _ _ _ _ _ _ _ _ _ _ _ _
   | exact ih2 _ _ _ _ _ _ _ _ _ _ _ _
   | exact eval_Row.mono _ _ _ _ _ _ _ _ _ _ _ _
   | exact eval_Rows.mono _ _ _ _ _ _ _ _ _ _ _ _
   | exact firkinlaw13_Small.mono _ _ _
   | exact firkinlaw20_live.mono _
   | exact firkinref01_Ints.mono _ _ _
   | exact firkinref17_Small.mono _ _ _ _ _ _ _ _ _ _ _
   | exact firkinref20_Row.mono _ _ _ _ _ _ _ _ _ _ _ _
   | exact firkinref20_Rows.mono _ _ _ _ _ _ _ _ _ _ _ _
   | exact LeO.none _
   | refine LeO.ite ?_ ?_
   | refine LeO.bind ?_ (fun _ => ?_)
  ·intro y0 y1 y2 y3 y4 y5 y6 y7 y8 y9 y10 y11
   unfold firkinlaw20_EvalRows.l0
   repeat' first
   | (with_reducible exact ih0 _ _ _ _ _ _ _ _ _ _ _ _)
   | (with_reducible exact ih1 _ _ _ _ _ _ _ _ _ _ _ _)
   | (with_reducible exact ih2 _ _ _ _ _ _ _ _ _ _ _ _)
   | (with_reducible exact eval_Row.mono _ _ _ _ _ _ _ _ _ _ _ _)
   | (with_reducible exact eval_Rows.mono _ _ _ _ _ _ _ _ _ _ _ _)
   | (with_reducible exact firkinlaw13_Small.mono _ _ _)
   | (with_reducible exact firkinlaw20_live.mono _)
   | (with_reducible exact firkinref01_Ints.mono _ _ _)
   | (with_reducible exact firkinref17_Small.mono _ _ _ _ _ _ _ _ _ _ _)
   | (with_reducible exact firkinref20_Row.mono _ _ _ _ _ _ _ _ _ _ _ _)
   | (with_reducible exact firkinref20_Rows.mono _ _ _ _ _ _ _ _ _ _ _ _)
   | (with_reducible exact LeO.refl _)
   | (with_reducible exact LeO.none _)
   | (with_reducible refine LeO.ite ?_ ?_)
   | (with_reducible refine LeO.bind ?_ (fun _ => ?_))
   | exact ih0 _ _ _ _ _ _ _ _ _ _ _ _
   | exact ih1 _ _ _ _ _ _ _ _ _ _ _ _
   | exact ih2 _ _ _ _ _ _ _ _ _ _ _ _
   | exact eval_Row.mono _ _ _ _ _ _ _ _ _ _ _ _
   | exact eval_Rows.mono _ _ _ _ _ _ _ _ _ _ _ _
   | exact firkinlaw13_Small.mono _ _ _
   | exact firkinlaw20_live.mono _
   | exact firkinref01_Ints.mono _ _ _
   | exact firkinref17_Small.mono _ _ _ _ _ _ _ _ _ _ _
   | exact firkinref20_Row.mono _ _ _ _ _ _ _ _ _ _ _ _
   | exact firkinref20_Rows.mono _ _ _ _ _ _ _ _ _ _ _ _
   | exact LeO.none _
   | refine LeO.ite ?_ ?_
   | refine LeO.bind ?_ (fun _ => ?_)
theorem firkinlaw20_EvalRows.mono : ∀ a0 a1 a2 a3 a4 a5 a6 a7 a8 a9 a10 k, LeO (firkinlaw20_EvalRows.f k a0 a1 a2 a3 a4 a5 a6 a7 a8 a9 a10) (firkinlaw20_EvalRows.f (k + 1) a0 a1 a2 a3 a4 a5 a6 a7 a8 a9 a10) := by
 intro a0 a1 a2 a3 a4 a5 a6 a7 a8 a9 a10 k
 obtain ⟨ih0, ih1, ih2⟩ := firkinlaw20_EvalRows.mono_l k
 unfold firkinlaw20_EvalRows.f
 repeat' first
   | (with_reducible exact ih0 _ _ _ _ _ _ _ _ _ _ _ _)
   | (with_reducible exact ih1 _ _ _ _ _ _ _ _ _ _ _ _)
   | (with_reducible exact ih2 _ _ _ _ _ _ _ _ _ _ _ _)
   | (with_reducible exact eval_Row.mono _ _ _ _ _ _ _ _ _ _ _ _)
   | (with_reducible exact eval_Rows.mono _ _ _ _ _ _ _ _ _ _ _ _)
   | (with_reducible exact firkinlaw13_Small.mono _ _ _)
   | (with_reducible exact firkinlaw20_live.mono _)
   | (with_reducible exact firkinref01_Ints.mono _ _ _)
   | (with_reducible exact firkinref17_Small.mono _ _ _ _ _ _ _ _ _ _ _)
   | (with_reducible exact firkinref20_Row.mono _ _ _ _ _ _ _ _ _ _ _ _)
   | (with_reducible exact firkinref20_Rows.mono _ _ _ _ _ _ _ _ _ _ _ _)
   | (with_reducible exact LeO.refl _)
   | (with_reducible exact LeO.none _)
   | (with_reducible refine LeO.ite ?_ ?_)
   | (with_reducible refine LeO.bind ?_ (fun _ => ?_))
   | exact ih0 _ _ _ _ _ _ _ _ _ _ _ _
   | exact ih1 _ _ _ _ _ _ _ _ _ _ _ _
   | exact ih2 _ _ _ _ _ _ _ _ _ _ _ _
   | exact eval_Row.mono _ _ _ _ _ _ _ _ _ _ _ _
   | exact eval_Rows.mono _ _ _ _ _ _ _ _ _ _ _ _
   | exact firkinlaw13_Small.mono _ _ _
   | exact firkinlaw20_live.mono _
   | exact firkinref01_Ints.mono _ _ _
   | exact firkinref17_Small.mono _ _ _ _ _ _ _ _ _ _ _
   | exact firkinref20_Row.mono _ _ _ _ _ _ _ _ _ _ _ _
   | exact firkinref20_Rows.mono _ _ _ _ _ _ _ _ _ _ _ _
   | exact LeO.none _
   | refine LeO.ite ?_ ?_
   | refine LeO.bind ?_ (fun _ => ?_)
def firkinlaw20_EvalRows.T10 : Bool × List (List Nat × List Nat) := (true, [([], []), ([], []), ([], []), ([], []), ([2, 3], [2, 3]), ([4], [4]), ([0, 1, 5], [0, 1, 5]), ([6], [6]), ([7], [7]), ([7], [7]), ([8, 6, 0, 1, 2, 3, 4, 5, 6, 7, 8], [8]), ([9, 10, 0, 1, 2, 3, 4, 5, 6, 7, 8, 9, 10], [9])])
def firkinlaw20_EvalRows.B10 : List Nat := [0, 0, 0, 0, 12, 28, 63, 127, 255, 255, 511, 2047]
theorem firkinlaw20_EvalRows.tab10 : rtab .any (opsOf Try.f8 10) = firkinlaw20_EvalRows.T10 := by kernel_rfl
theorem firkinlaw20_EvalRows.bits10 : waitsOk firkinlaw20_EvalRows.T10.2 firkinlaw20_EvalRows.B10 = true := by kernel_rfl
def firkinlaw20_EvalRows.T11 : Bool × List (List Nat × List Nat) := (true, [([], []), ([], []), ([], []), ([], []), ([2, 3], [2, 3]), ([4], [4]), ([0, 1, 5], [0, 1, 5]), ([6], [6]), ([7], [7]), ([7], [7]), ([8, 6, 0, 1, 2, 3, 4, 5, 6, 7, 8], [8]), ([9, 10, 0, 1, 2, 3, 4, 5, 6, 7, 8, 9, 10], [9])])
def firkinlaw20_EvalRows.B11 : List Nat := [0, 0, 0, 0, 12, 28, 63, 127, 255, 255, 511, 2047]
theorem firkinlaw20_EvalRows.tab11 : rtab .any (opsOf Try.f8 11) = firkinlaw20_EvalRows.T11 := by kernel_rfl
theorem firkinlaw20_EvalRows.bits11 : waitsOk firkinlaw20_EvalRows.T11.2 firkinlaw20_EvalRows.B11 = true := by kernel_rfl
set_option maxHeartbeats 8000000 in
set_option maxRecDepth 100000 in
theorem firkinlaw20_EvalRows.calls (k : Nat) (A0 : Option Addr) (c0 : Nat) (l0 : List (S64)) (a1_0 : Int) (a1_1 : ByteArray) (a1_2 : Int) (a1_3 : Bool) (a1_4 : Int) (a1_5 : ByteArray) (a1_6 : Int) (a1_7 : ByteArray) (A1_8 : Option Addr) (c1_8 : Nat) (l1_8 : List (S27)) (A2 : Option Addr) (c2 : Nat) (l2 : List (List (S24))) (r : Bool) (w : World) (hr0 : Kd.C k64 w A0 l0.length l0) (hc0 : l0.length ≤ c0) (hr1_8 : Kd.C k27 w A1_8 l1_8.length l1_8) (hc1_8 : l1_8.length ≤ c1_8) (hr2 : Kd.C (Kd.slice 24 k24) w A2 l2.length l2) (hc2 : l2.length ≤ c2) (h : firkinlaw20_EvalRows.f k l0 a1_0 a1_1 a1_2 a1_3 a1_4 a1_5 a1_6 a1_7 l1_8 l2 = some r) :
  Calls Try.prog 8 #[.slice A0 l0.length c0, .agg #[.int .i64 a1_0, .string a1_1, .int .i64 a1_2, .bool a1_3, .int .i64 a1_4, .string a1_5, .int .i64 a1_6, .string a1_7, .slice A1_8 l1_8.length c1_8], .slice A2 l2.length c2] w fun e w' => e = .returned (.bool r) ∧ Below w.heap.size w w' := by
 have hu27 := Try.underlying27
 have HR0 := Aside0.mk hr0
 have HC0 := Aside0.mk hc0
 clear hr0 hc0
 have HR1_8 := Aside0.mk hr1_8
 have HC1_8 := Aside0.mk hc1_8
 clear hr1_8 hc1_8
 have HR2 := Aside0.mk hr2
 have HC2 := Aside0.mk hc2
 clear hr2 hc2
 have HB := Aside0.mk (Below.refl w.heap.size w)
 have H : ((firkinlaw13_Small.f k l0 l2).bind fun t560 => (if t560 = true then ((firkinref17_Small.f k a1_0 a1_1 a1_2 a1_3 a1_4 a1_5 a1_6 a1_7 l1_8 9).bind fun t561 => (firkinlaw20_EvalRows.j0 k l0 l2 (!t561) a1_0 a1_1 a1_2 a1_3 a1_4 a1_5 a1_6 a1_7 l1_8)) else (firkinlaw20_EvalRows.j0 k l0 l2 true a1_0 a1_1 a1_2 a1_3 a1_4 a1_5 a1_6 a1_7 l1_8))) = some r := h
 clear h
 have HC4 := Aside0.mk H
 clear H
 go_enter Try.func8, Try.ntmps8
 go_upto_region 1 with (first | (refine bx_ (N := 4) (cs := #[.int .i64 a1_0, .string a1_1, .int .i64 a1_2, .bool a1_3, .int .i64 a1_4, .string a1_5, .int .i64 a1_6, .string a1_7, .slice A1_8 l1_8.length c1_8]) (t := 27) ?_; intro gb559 hg w5 hbox hb; have BK559 := Aside0.mk (hbox); have GW559 := ge_ HB hg; have GE559 := ge_ HB hg; replace HB := bs_ HB hb; clear hb hbox hg))
 (try simp only [Act.put, List.setIfInBounds_toArray, List.set_cons_zero, List.set_cons_succ])
 go_cut [24] (fun v24 wc => ∃ (kq : Nat) (x24_3 : Bool), v24 = .bool x24_3 ∧ Aside0 (firkinlaw20_EvalRows.j0 kq l0 l2 x24_3 a1_0 a1_1 a1_2 a1_3 a1_4 a1_5 a1_6 a1_7 l1_8 = some r) ∧ Aside0 (kq ≤ k) ∧ Aside0 (wc.heap[gb559]? = some (.cells #[.int .i64 a1_0, .string a1_1, .int .i64 a1_2, .bool a1_3, .int .i64 a1_4, .string a1_5, .int .i64 a1_6, .string a1_7, (.slice A1_8 l1_8.length c1_8)] 27 (0, 0))) ∧ Aside0 (Below w.heap.size w wc))
 case first =>
  have H := HC4.out
  clear HC4
  replace H := Option.bind_eq_some_iff.mp H
  obtain ⟨t560, A60, H⟩ := H
  replace H : (if t560 = true then ((firkinref17_Small.f k a1_0 a1_1 a1_2 a1_3 a1_4 a1_5 a1_6 a1_7 l1_8 9).bind fun t561 => (firkinlaw20_EvalRows.j0 k l0 l2 (!t561) a1_0 a1_1 a1_2 a1_3 a1_4 a1_5 a1_6 a1_7 l1_8)) else (firkinlaw20_EvalRows.j0 k l0 l2 true a1_0 a1_1 a1_2 a1_3 a1_4 a1_5 a1_6 a1_7 l1_8)) = some r := H
  have A6 := Aside0.mk A60
  clear A60
  by_cases c7 : t560 = true
  rotate_left
  focus
   replace c7 := Bool.eq_false_iff.mpr c7
   subst c7
   have H1 : (firkinlaw20_EvalRows.j0 k l0 l2 true a1_0 a1_1 a1_2 a1_3 a1_4 a1_5 a1_6 a1_7 l1_8) = some r := by rw [if_neg (show ¬ (false = true) by decide)] at H; exact H
   clear H
   have H := H1
   clear H1
   have H' := Aside0.mk H
   clear H
   go_wp2_with (first | ((with_reducible refine gate_callee (f := 16) rfl ?_); refine gl_ (some 18) rfl Try.func16 #[.slice A0 l0.length c0, .slice A2 l2.length c2] ?_; (with_reducible refine (firkinlaw13_Small.calls k _ _ l0 _ _ l2 false _ ?side1 ?side2 ?side3 ?side4 A6.out).mono ?_); (case side1 => repeat (first | exact (Kd.C_below HR0.out HB.out) | (with_reducible refine Kd.C_alloc ?_ _) | (with_reducible refine Kd.C_drewN ?_ _) | (with_reducible refine Kd.C_drew ?_))); (case side2 => exact HC0.out); (case side3 => repeat (first | exact (Kd.C_below HR2.out HB.out) | (with_reducible refine Kd.C_alloc ?_ _) | (with_reducible refine Kd.C_drewN ?_ _) | (with_reducible refine Kd.C_drew ?_))); (case side4 => exact HC2.out); rintro e w' ⟨rfl, ⟨nd, rfl⟩⟩; refine ⟨_, rfl, ?_⟩))
  rotate_right
  focus
   subst c7
   have H1 : ((firkinref17_Small.f k a1_0 a1_1 a1_2 a1_3 a1_4 a1_5 a1_6 a1_7 l1_8 9).bind fun t561 => (firkinlaw20_EvalRows.j0 k l0 l2 (!t561) a1_0 a1_1 a1_2 a1_3 a1_4 a1_5 a1_6 a1_7 l1_8)) = some r := by rw [if_pos rfl] at H; exact H
   clear H
   have H := H1
   clear H1
   replace H := Option.bind_eq_some_iff.mp H
   obtain ⟨t561, A80, H⟩ := H
   replace H : (firkinlaw20_EvalRows.j0 k l0 l2 (!t561) a1_0 a1_1 a1_2 a1_3 a1_4 a1_5 a1_6 a1_7 l1_8) = some r := H
   have A8 := Aside0.mk A80
   clear A80
   have H' := Aside0.mk H
   clear H
   go_wp2_with (first | ((with_reducible refine gate_callee (f := 16) rfl ?_); refine gl_ (some 18) rfl Try.func16 #[.slice A0 l0.length c0, .slice A2 l2.length c2] ?_; (with_reducible refine (firkinlaw13_Small.calls k _ _ l0 _ _ l2 true _ ?side1 ?side2 ?side3 ?side4 A6.out).mono ?_); (case side1 => repeat (first | exact (Kd.C_below HR0.out HB.out) | (with_reducible refine Kd.C_alloc ?_ _) | (with_reducible refine Kd.C_drewN ?_ _) | (with_reducible refine Kd.C_drew ?_))); (case side2 => exact HC0.out); (case side3 => repeat (first | exact (Kd.C_below HR2.out HB.out) | (with_reducible refine Kd.C_alloc ?_ _) | (with_reducible refine Kd.C_drewN ?_ _) | (with_reducible refine Kd.C_drew ?_))); (case side4 => exact HC2.out); rintro e w' ⟨rfl, ⟨nd, rfl⟩⟩; refine ⟨_, rfl, ?_⟩; obtain ⟨C9_0, C9_1, C9_2, C9_3, C9_4, C9_5, C9_6, C9_7, C9_8⟩ := zc9_ BK559.out; obtain ⟨F9_0, F9_1, F9_2, F9_3, F9_4, F9_5, F9_6, F9_7, F9_8⟩ := zf9_ BK559.out) | (go_at_call 10; (with_reducible refine (firkinref17_Small.calls k a1_0 a1_1 a1_2 a1_3 a1_4 a1_5 a1_6 a1_7 _ _ l1_8 9 t561 _ ?side1 ?side2 A8.out).mono ?_); (case side1 => repeat (first | exact (Kd.C_below HR1_8.out (by repeat (first | (with_reducible first | exact HB.out | apply below_alloc | apply pw_below_drewN | apply below_drew1 | refine below_set ?_ GE559.out) | exact HB.out))) | (with_reducible refine Kd.C_alloc ?_ _) | (with_reducible refine Kd.C_drewN ?_ _) | (with_reducible refine Kd.C_drew ?_))); (case side2 => exact HC1_8.out); rintro e w10 ⟨rfl, hb⟩;  replace BK559 := bk_ BK559 hb; replace HB := bs_ HB hb; (try clear hb); (try clear hb2); (try clear hk); (try clear hi)))
  all_goals
   go_meet
   case rel => exact ⟨_, _, (by first | rfl | (simp; done) | (simp [*]; done)), H', ⟨by first | omega | exact Nat.le_refl _⟩, ⟨by (with_reducible repeat (first | refine blk_drewN ?_ _ | refine blk_drew ?_ | refine blk_alloc ?_ _)); exact BK559.out⟩, ⟨by repeat (first | (with_reducible first | exact HB.out | apply below_alloc | apply pw_below_drewN | apply below_drew1 | refine below_set ?_ GE559.out) | exact HB.out)⟩⟩
 case rest =>
  clear HC4
  try clear c1
  try clear c2
  try clear p2
  try clear c7
  try clear c8
  try clear C9_0 C9_1 C9_2 C9_3 C9_4 C9_5 C9_6 C9_7 C9_8
  try clear F9_0 F9_1 F9_2 F9_3 F9_4 F9_5 F9_6 F9_7 F9_8
  obtain ⟨kq, x24_3, rfl, HA, HJ3, BK559, HB⟩ := hcut
  cases kq with
  | zero => exact absurd HA.out (by simp [firkinlaw20_EvalRows.j0])
  | succ kj3 =>
   have H := HA.out
   clear HA
   simp only [firkinlaw20_EvalRows.j0] at H
   by_cases c11 : x24_3 = true
   ·subst c11
    have H1 : ((firkinlaw20_live.f kj3).bind fun t562 => (some t562)) = some r := by rw [if_pos rfl] at H; exact H
    clear H
    have H := H1
    clear H1
    replace H := Option.bind_eq_some_iff.mp H
    obtain ⟨t562, A120, H⟩ := H
    replace H : (some t562) = some r := H
    have A12 := Aside0.mk A120
    clear A120
    obtain rfl := Option.some.inj H
    go_wp2_with (first | ((with_reducible refine gate_callee (f := 21) rfl ?_); refine gl_ (some 25) rfl Try.func21 #[] ?_; (with_reducible refine (firkinlaw20_live.calls kj3  t562 _ A12.out).mono ?_); rintro e w13 ⟨rfl, hb⟩; refine ⟨_, rfl, ?_⟩;  replace BK559 := bk_ BK559 hb; replace HB := bs_ HB hb; (try clear hb); (try clear hb2); (try clear hk); (try clear hi)))
    go_ret
    exact en_ HB
   ·replace c11 := Bool.eq_false_iff.mpr c11
    subst c11
    have H1 : ((eval_Rows.f kj3 l0 a1_0 a1_1 a1_2 a1_3 a1_4 a1_5 a1_6 a1_7 l1_8 l2).bind fun bt563 => ((firkinref20_Rows.f kj3 l0 a1_0 a1_1 a1_2 a1_3 a1_4 a1_5 a1_6 a1_7 l1_8 l2).bind fun bt567 => ((firkinlaw20_num.f bt563.2).bind fun t571 => (if t571 = bt567.2 then ((firkinref01_Ints.f kj3 bt563.1 bt567.1).bind fun t572 => (firkinlaw20_EvalRows.j1 kj3 l0 l2 (!t572) a1_0 a1_1 a1_2 a1_3 a1_4 a1_5 a1_6 a1_7 l1_8)) else (firkinlaw20_EvalRows.j1 kj3 l0 l2 true a1_0 a1_1 a1_2 a1_3 a1_4 a1_5 a1_6 a1_7 l1_8))))) = some r := by rw [if_neg (show ¬ (false = true) by decide)] at H; exact H
    clear H
    have H := H1
    clear H1
    replace H := Option.bind_eq_some_iff.mp H
    obtain ⟨⟨t563, t566⟩, A140, H⟩ := H
    replace H : ((firkinref20_Rows.f kj3 l0 a1_0 a1_1 a1_2 a1_3 a1_4 a1_5 a1_6 a1_7 l1_8 l2).bind fun bt567 => ((firkinlaw20_num.f t566).bind fun t571 => (if t571 = bt567.2 then ((firkinref01_Ints.f kj3 t563 bt567.1).bind fun t572 => (firkinlaw20_EvalRows.j1 kj3 l0 l2 (!t572) a1_0 a1_1 a1_2 a1_3 a1_4 a1_5 a1_6 a1_7 l1_8)) else (firkinlaw20_EvalRows.j1 kj3 l0 l2 true a1_0 a1_1 a1_2 a1_3 a1_4 a1_5 a1_6 a1_7 l1_8)))) = some r := H
    have A14 := Aside0.mk A140
    clear A140
    replace H := Option.bind_eq_some_iff.mp H
    obtain ⟨⟨t567, t570⟩, A150, H⟩ := H
    replace H : ((firkinlaw20_num.f t566).bind fun t571 => (if t571 = t570 then ((firkinref01_Ints.f kj3 t563 t567).bind fun t572 => (firkinlaw20_EvalRows.j1 kj3 l0 l2 (!t572) a1_0 a1_1 a1_2 a1_3 a1_4 a1_5 a1_6 a1_7 l1_8)) else (firkinlaw20_EvalRows.j1 kj3 l0 l2 true a1_0 a1_1 a1_2 a1_3 a1_4 a1_5 a1_6 a1_7 l1_8))) = some r := H
    have A15 := Aside0.mk A150
    clear A150
    have HC16 := Aside0.mk H
    clear H
    obtain ⟨C17_0, C17_1, C17_2, C17_3, C17_4, C17_5, C17_6, C17_7, C17_8⟩ := cz9_ BK559.out
    obtain ⟨F17_0, F17_1, F17_2, F17_3, F17_4, F17_5, F17_6, F17_7, F17_8⟩ := fz9_ BK559.out
    go_upto_region 5 with (first | ((with_reducible refine gate_callee (f := 24) rfl ?_); refine gl_ (some 30) rfl Try.func24 #[.slice A0 l0.length c0, .agg #[.int .i64 a1_0, .string a1_1, .int .i64 a1_2, .bool a1_3, .int .i64 a1_4, .string a1_5, .int .i64 a1_6, .string a1_7, .slice A1_8 l1_8.length c1_8], .slice A2 l2.length c2] ?_; (with_reducible refine (eval_Rows.calls kj3 _ _ l0 a1_0 a1_1 a1_2 a1_3 a1_4 a1_5 a1_6 a1_7 _ _ l1_8 _ _ l2 t563 t566 _ ?side1 ?side2 ?side3 ?side4 ?side5 ?side6 A14.out).mono ?_); (case side1 => repeat (first | exact (Kd.C_below HR0.out HB.out) | (with_reducible refine Kd.C_alloc ?_ _) | (with_reducible refine Kd.C_drewN ?_ _) | (with_reducible refine Kd.C_drew ?_))); (case side2 => exact HC0.out); (case side3 => repeat (first | exact (Kd.C_below HR1_8.out HB.out) | (with_reducible refine Kd.C_alloc ?_ _) | (with_reducible refine Kd.C_drewN ?_ _) | (with_reducible refine Kd.C_drew ?_))); (case side4 => exact HC1_8.out); (case side5 => repeat (first | exact (Kd.C_below HR2.out HB.out) | (with_reducible refine Kd.C_alloc ?_ _) | (with_reducible refine Kd.C_drewN ?_ _) | (with_reducible refine Kd.C_drew ?_))); (case side6 => exact HC2.out); rintro e w18 ⟨v564, rfl, ho0, hb⟩; refine ⟨_, rfl, ?_⟩; have HO565 := Aside0.mk (Kd.R_lower ho0 (below_size (by repeat (first | (with_reducible first | exact HB.out | apply below_alloc | apply pw_below_drewN | apply below_drew1 | refine below_set ?_ GE559.out) | exact HB.out)))); replace BK559 := bk_ BK559 hb; replace HB := bs_ HB hb; (try clear hb); (try clear hb2); (try clear hk); (try clear hi); (try clear ho0); obtain ⟨C19_0, C19_1, C19_2, C19_3, C19_4, C19_5, C19_6, C19_7, C19_8⟩ := zc9_ BK559.out; obtain ⟨F19_0, F19_1, F19_2, F19_3, F19_4, F19_5, F19_6, F19_7, F19_8⟩ := zf9_ BK559.out) | ((with_reducible refine gate_callee (f := 17) rfl ?_); refine gl_ (some 37) rfl Try.func17 #[.slice A0 l0.length c0, .agg #[.int .i64 a1_0, .string a1_1, .int .i64 a1_2, .bool a1_3, .int .i64 a1_4, .string a1_5, .int .i64 a1_6, .string a1_7, .slice A1_8 l1_8.length c1_8], .slice A2 l2.length c2] ?_; (with_reducible refine (firkinref20_Rows.calls kj3 _ _ l0 a1_0 a1_1 a1_2 a1_3 a1_4 a1_5 a1_6 a1_7 _ _ l1_8 _ _ l2 t567 t570 _ ?side1 ?side2 ?side3 ?side4 ?side5 ?side6 A15.out).mono ?_); (case side1 => repeat (first | exact (Kd.C_below HR0.out HB.out) | (with_reducible refine Kd.C_alloc ?_ _) | (with_reducible refine Kd.C_drewN ?_ _) | (with_reducible refine Kd.C_drew ?_))); (case side2 => exact HC0.out); (case side3 => repeat (first | exact (Kd.C_below HR1_8.out HB.out) | (with_reducible refine Kd.C_alloc ?_ _) | (with_reducible refine Kd.C_drewN ?_ _) | (with_reducible refine Kd.C_drew ?_))); (case side4 => exact HC1_8.out); (case side5 => repeat (first | exact (Kd.C_below HR2.out HB.out) | (with_reducible refine Kd.C_alloc ?_ _) | (with_reducible refine Kd.C_drewN ?_ _) | (with_reducible refine Kd.C_drew ?_))); (case side6 => exact HC2.out); rintro e w20 ⟨v568, rfl, ho0, hb⟩; refine ⟨_, rfl, ?_⟩; have n0_ := Aside0.mk (Kd.R_elder' (by (with_reducible repeat (first | apply Kd.R_alloc | apply Kd.R_drewN | apply Kd.R_drew)); exact HO565.out) (Kd.R_base ho0) hb); have n1_ := Aside0.mk (Kd.R_lower (Kd.R_new' ho0 (Kd.R_lt (by (with_reducible repeat (first | apply Kd.R_alloc | apply Kd.R_drewN | apply Kd.R_drew)); exact HO565.out))) (below_size (by repeat (first | (with_reducible first | exact HB.out | apply below_alloc | apply pw_below_drewN | apply below_drew1 | refine below_set ?_ GE559.out) | exact HB.out)))); have n2_ := bk_ BK559 hb; have n3_ := bs_ HB hb; clear HO565; clear BK559; clear HB; have HO565 := n0_; have HO569 := n1_; have BK559 := n2_; have HB := n3_; clear n0_ n1_ n2_ n3_; (try clear hb); (try clear hb2); (try clear hk); (try clear hi); (try clear ho0)))
    (try simp only [Act.put, List.setIfInBounds_toArray, List.set_cons_zero, List.set_cons_succ])
    go_cut [49] (fun v49 wc => ∃ (kq : Nat) (x49_15 : Bool), v49 = .bool x49_15 ∧ Aside0 (firkinlaw20_EvalRows.j1 kq l0 l2 x49_15 a1_0 a1_1 a1_2 a1_3 a1_4 a1_5 a1_6 a1_7 l1_8 = some r) ∧ Aside0 (kq ≤ kj3) ∧ Aside0 (wc.heap[gb559]? = some (.cells #[.int .i64 a1_0, .string a1_1, .int .i64 a1_2, .bool a1_3, .int .i64 a1_4, .string a1_5, .int .i64 a1_6, .string a1_7, (.slice A1_8 l1_8.length c1_8)] 27 (0, 0))) ∧ Aside0 (Below w.heap.size w wc))
    case first =>
     have H := HC16.out
     clear HC16
     replace H := Option.bind_eq_some_iff.mp H
     obtain ⟨t571, A210, H⟩ := H
     replace H : (if t571 = t570 then ((firkinref01_Ints.f kj3 t563 t567).bind fun t572 => (firkinlaw20_EvalRows.j1 kj3 l0 l2 (!t572) a1_0 a1_1 a1_2 a1_3 a1_4 a1_5 a1_6 a1_7 l1_8)) else (firkinlaw20_EvalRows.j1 kj3 l0 l2 true a1_0 a1_1 a1_2 a1_3 a1_4 a1_5 a1_6 a1_7 l1_8)) = some r := H
     have A21 := Aside0.mk A210
     clear A210
     by_cases c22 : t571 = t570
     rotate_left
     focus
      rw [if_neg c22] at H
      have c22b0 : (t571 == t570) = false := beq_eq_false_iff_ne.mpr c22
      have c22b1 : (t571 != t570) = true := bne_iff_ne.mpr c22
      (first | rw [c22b0] | (simp only [i64_w, i32_w]; rw [c22b0]) | skip)
      have H' := Aside0.mk H
      clear H
      go_wp2_with (first | ((with_reducible refine gate_callee (f := 23) rfl ?_); refine gl_ (some 41) rfl Try.func23 #[.int .i64 t566] ?_; (with_reducible refine (firkinlaw20_num.calls t566 t571 _ A21.out).mono ?_); rintro e w' ⟨rfl, ⟨nd, rfl⟩⟩; refine ⟨_, rfl, ?_⟩))
     rotate_right
     focus
      rw [if_pos c22] at H
      have c22b0 : (t571 == t570) = true := beq_iff_eq.mpr c22
      have c22b1 : (t571 != t570) = false := bne_eq_false_iff_eq.mpr c22
      clear c22
      (first | rw [c22b0] | (simp only [i64_w, i32_w]; rw [c22b0]) | skip)
      replace H := Option.bind_eq_some_iff.mp H
      obtain ⟨t572, A230, H⟩ := H
      replace H : (firkinlaw20_EvalRows.j1 kj3 l0 l2 (!t572) a1_0 a1_1 a1_2 a1_3 a1_4 a1_5 a1_6 a1_7 l1_8) = some r := H
      have A23 := Aside0.mk A230
      clear A230
      have H' := Aside0.mk H
      clear H
      go_wp2_with (first | ((with_reducible refine gate_callee (f := 23) rfl ?_); refine gl_ (some 41) rfl Try.func23 #[.int .i64 t566] ?_; (with_reducible refine (firkinlaw20_num.calls t566 t571 _ A21.out).mono ?_); rintro e w' ⟨rfl, ⟨nd, rfl⟩⟩; refine ⟨_, rfl, ?_⟩; obtain ⟨Ao24, co24, eo24⟩ := Kd.R_slice HO565.out; subst eo24; obtain ⟨Ao25, co25, eo25⟩ := Kd.R_slice HO569.out; subst eo25) | (go_at_call 25; (with_reducible refine (firkinref01_Ints.calls kj3 _ _ t563 _ _ t567 t572 _ ?side1 ?side2 ?side3 ?side4 A23.out).mono ?_); (case side1 => repeat (first | exact (Kd.R_reads' HO565.out).2.2 | (with_reducible refine Kd.C_alloc ?_ _) | (with_reducible refine Kd.C_drewN ?_ _) | (with_reducible refine Kd.C_drew ?_))); (case side2 => exact (Kd.R_reads' HO565.out).2.1); (case side3 => repeat (first | exact (Kd.R_reads' HO569.out).2.2 | (with_reducible refine Kd.C_alloc ?_ _) | (with_reducible refine Kd.C_drewN ?_ _) | (with_reducible refine Kd.C_drew ?_))); (case side4 => exact (Kd.R_reads' HO569.out).2.1); rintro e w' ⟨rfl, ⟨nd, rfl⟩⟩))
     all_goals
      go_meet
      case rel => exact ⟨_, _, (by first | rfl | (simp; done) | (simp [*]; done)), H', ⟨by have := HJ3.out; first | omega | exact Nat.le_refl _⟩, ⟨by (with_reducible repeat (first | refine blk_drewN ?_ _ | refine blk_drew ?_ | refine blk_alloc ?_ _)); exact BK559.out⟩, ⟨by repeat (first | (with_reducible first | exact HB.out | apply below_alloc | apply pw_below_drewN | apply below_drew1 | refine below_set ?_ GE559.out) | exact HB.out)⟩⟩
    case rest =>
     clear HC16
     try clear c1
     try clear c2
     try clear p2
     try clear c7
     try clear c8
     try clear c11
     try clear c16
     try clear c17
     try clear c21
     try clear c22
     try clear c22b0
     try clear c22b1
     try clear c23
     try clear c24
     try clear C17_0 C17_1 C17_2 C17_3 C17_4 C17_5 C17_6 C17_7 C17_8
     try clear C19_0 C19_1 C19_2 C19_3 C19_4 C19_5 C19_6 C19_7 C19_8
     try clear C9_0 C9_1 C9_2 C9_3 C9_4 C9_5 C9_6 C9_7 C9_8
     try clear F17_0 F17_1 F17_2 F17_3 F17_4 F17_5 F17_6 F17_7 F17_8
     try clear F19_0 F19_1 F19_2 F19_3 F19_4 F19_5 F19_6 F19_7 F19_8
     try clear F9_0 F9_1 F9_2 F9_3 F9_4 F9_5 F9_6 F9_7 F9_8
     try clear p2
     obtain ⟨kq, x49_15, rfl, HA, HJ15, BK559, HB⟩ := hcut
     cases kq with
     | zero => exact absurd HA.out (by simp [firkinlaw20_EvalRows.j1])
     | succ kj15 =>
      have H := HA.out
      clear HA
      simp only [firkinlaw20_EvalRows.j1] at H
      by_cases c26 : x49_15 = true
      ·subst c26
       have H1 : (some false) = some r := by rw [if_pos rfl] at H; exact H
       clear H
       have H := H1
       clear H1
       obtain rfl := Option.some.inj H
       go_wp2
       go_ret
       exact en_ HB
      ·replace c26 := Bool.eq_false_iff.mpr c26
       subst c26
       have H1 : (firkinlaw20_EvalRows.l0 kj15 l0 l2 0 a1_0 a1_1 a1_2 a1_3 a1_4 a1_5 a1_6 a1_7 l1_8) = some r := by rw [if_neg (show ¬ (false = true) by decide)] at H; exact H
       clear H
       have H := H1
       clear H1
       have H' := Aside0.mk H
       clear H
       go_wp2
       go_loopg [11] kj15 (fun kq v11 w' => ∃ (x11_3 : Int), v11 = .int .i64 x11_3 ∧ Aside0 (firkinlaw20_EvalRows.l0 kq l0 l2 x11_3 a1_0 a1_1 a1_2 a1_3 a1_4 a1_5 a1_6 a1_7 l1_8 = some r) ∧ Aside0 (kq ≤ kj15) ∧ Aside0 (w'.heap[gb559]? = some (.cells #[.int .i64 a1_0, .string a1_1, .int .i64 a1_2, .bool a1_3, .int .i64 a1_4, .string a1_5, .int .i64 a1_6, .string a1_7, (.slice A1_8 l1_8.length c1_8)] 27 (0, 0))) ∧ Aside0 (Below w.heap.size w w'))
       case atStart => exact ⟨_, (by first | rfl | (simp; done) | (simp [*]; done)), H', ⟨Nat.le_refl _⟩, ⟨by (with_reducible repeat (first | refine blk_drewN ?_ _ | refine blk_drew ?_ | refine blk_alloc ?_ _)); exact BK559.out⟩, ⟨by repeat (first | (with_reducible first | exact HB.out | apply below_alloc | apply pw_below_drewN | apply below_drew1 | refine below_set ?_ GE559.out) | exact HB.out)⟩⟩
       case round =>
        clear H'
        try clear c1
        try clear c2
        try clear p2
        try clear c7
        try clear c8
        try clear c11
        try clear c16
        try clear c17
        try clear c21
        try clear c22
        try clear c22b0
        try clear c22b1
        try clear c23
        try clear c24
        try clear c26
        try clear C17_0 C17_1 C17_2 C17_3 C17_4 C17_5 C17_6 C17_7 C17_8
        try clear C19_0 C19_1 C19_2 C19_3 C19_4 C19_5 C19_6 C19_7 C19_8
        try clear C9_0 C9_1 C9_2 C9_3 C9_4 C9_5 C9_6 C9_7 C9_8
        try clear F17_0 F17_1 F17_2 F17_3 F17_4 F17_5 F17_6 F17_7 F17_8
        try clear F19_0 F19_1 F19_2 F19_3 F19_4 F19_5 F19_6 F19_7 F19_8
        try clear F9_0 F9_1 F9_2 F9_3 F9_4 F9_5 F9_6 F9_7 F9_8
        try clear p2
        obtain ⟨x11_3, rfl, HA, HK3, BK559, HB⟩ := hrel
        cases gk with
        | zero => exact absurd HA.out (by simp [firkinlaw20_EvalRows.l0])
        | succ k3 =>
         have H := HA.out
         clear HA
         simp only [firkinlaw20_EvalRows.l0] at H
         by_cases c27 : x11_3 < (l2.length : Int)
         ·rw [if_pos c27] at H
          have c27b0 : decide (x11_3 < (l2.length : Int)) = true := decide_eq_true c27
          clear c27
          by_cases c28 : 0 ≤ x11_3
          ·rw [if_pos c28] at H
           have c28b0 : decide (0 ≤ x11_3) = true := decide_eq_true c28
           clear c28
           replace H := Option.bind_eq_some_iff.mp H
           obtain ⟨⟨t575, t576⟩, A290, H⟩ := H
           replace H : ((firkinref20_Row.f k3 l0 a1_0 a1_1 a1_2 a1_3 a1_4 a1_5 a1_6 a1_7 l1_8 (rd_L8 l2 x11_3)).bind fun bt578 => (if t575 = bt578.1 then ((firkinlaw20_num.f t576).bind fun t580 => (if t580 = bt578.2 then (firkinlaw20_EvalRows.l0 k3 l0 l2 (wrap64 (x11_3 + 1)) a1_0 a1_1 a1_2 a1_3 a1_4 a1_5 a1_6 a1_7 l1_8) else (some false))) else (some false))) = some r := H
           have A29 := Aside0.mk A290
           clear A290
           replace H := Option.bind_eq_some_iff.mp H
           obtain ⟨⟨t578, t579⟩, A300, H⟩ := H
           replace H : (if t575 = t578 then ((firkinlaw20_num.f t576).bind fun t580 => (if t580 = t579 then (firkinlaw20_EvalRows.l0 k3 l0 l2 (wrap64 (x11_3 + 1)) a1_0 a1_1 a1_2 a1_3 a1_4 a1_5 a1_6 a1_7 l1_8) else (some false))) else (some false)) = some r := H
           have A30 := Aside0.mk A300
           clear A300
           by_cases c31 : t575 = t578
           ·rw [if_pos c31] at H
            have c31b0 : (t575 == t578) = true := beq_iff_eq.mpr c31
            have c31b1 : (t575 != t578) = false := bne_eq_false_iff_eq.mpr c31
            clear c31
            replace H := Option.bind_eq_some_iff.mp H
            obtain ⟨t580, A320, H⟩ := H
            replace H : (if t580 = t579 then (firkinlaw20_EvalRows.l0 k3 l0 l2 (wrap64 (x11_3 + 1)) a1_0 a1_1 a1_2 a1_3 a1_4 a1_5 a1_6 a1_7 l1_8) else (some false)) = some r := H
            have A32 := Aside0.mk A320
            clear A320
            by_cases c33 : t580 = t579
            ·rw [if_pos c33] at H
             have c33b0 : (t580 == t579) = true := beq_iff_eq.mpr c33
             have c33b1 : (t580 != t579) = false := bne_eq_false_iff_eq.mpr c33
             clear c33
             have H' := Aside0.mk H
             clear H
             try go_wp2
             replace BK559 := Aside0.mk (blk_drew BK559.out); replace HB := Aside0.mk (below_drew1 HB.out)
             have p574 : 0 ≤ (x11_3 : Int) := dt_
             have q574 : x11_3 < (l2.length : Int) := dt_
             obtain ⟨ad574, A574_0, c574_0, e574, hx574_0, hl574_0, hi574_0⟩ := at_L8 HR2.out x11_3 p574 q574
             have hw574_0 := hx574_0
             cases e574
             replace hx574_0 := hc_ HB hx574_0
             have HR574_0 := Aside0.mk hi574_0
             have HC574_0 := Aside0.mk hl574_0
             clear hi574_0 hl574_0
             replace p574 := eq_true p574
             replace q574 := eq_true q574
             refine start_ (n := 12) (S := fun w' => w'.cell? ⟨gb559, 0, none⟩ = some (.int .i64 a1_0) ∧ w'.cell? ⟨gb559, 1, none⟩ = some (.string a1_1) ∧ w'.cell? ⟨gb559, 2, none⟩ = some (.int .i64 a1_2) ∧ w'.cell? ⟨gb559, 3, none⟩ = some (.bool a1_3) ∧ w'.cell? ⟨gb559, 4, none⟩ = some (.int .i64 a1_4) ∧ w'.cell? ⟨gb559, 5, none⟩ = some (.string a1_5) ∧ w'.cell? ⟨gb559, 6, none⟩ = some (.int .i64 a1_6) ∧ w'.cell? ⟨gb559, 7, none⟩ = some (.string a1_7) ∧ w'.cell? ⟨gb559, 8, none⟩ = some (.slice A1_8 l1_8.length c1_8) ∧ w'.cell? (ad574.add (x11_3).toNat) = some (.slice A574_0 (rd_L8 l2 x11_3).length c574_0)) (ds := []) #[false, false, false, false, false, false, false, false, false, false, false, false] (by kernel_rfl) rfl rfl ⟨(blk_cell BK559.out 0).trans rfl, (blk_cell BK559.out 1).trans rfl, (blk_cell BK559.out 2).trans rfl, (blk_cell BK559.out 3).trans rfl, (blk_cell BK559.out 4).trans rfl, (blk_cell BK559.out 5).trans rfl, (blk_cell BK559.out 6).trans rfl, (blk_cell BK559.out 7).trans rfl, (blk_cell BK559.out 8).trans rfl, ((HB.out.cell (World.block_lt_of_cell? w _ hw574_0)).trans hw574_0)⟩ (fun hHeld => ?_); refine with_tabW firkinlaw20_EvalRows.tab10 firkinlaw20_EvalRows.bits10 (fun HT_ HW_ => ?_)
             generalize wr.drew = w34 at BK559 HB HR574_0 hx574_0 hHeld ⊢
             refine pu_ 0 (some 57) (bl_ 12 1) ?_
             refine pu_ 2 (some 59) (bl_ 12 5) ?_
             refine pu_ 3 (some 60) (bl_ 12 13) ?_
             refine pu_ 4 (some 61) (bl_ 12 29) ?_
             refine ta_ 1 (some 58) (bl_ 12 31) hHeld ?_
             refine ta_ 5 (some 62) (bl_ 12 63) hHeld ?_
             refine one_ (i := 6) (N := some 63) #[true, true, true, true, true, true, true, false, false, false, false, false] rfl rfl (one_of HT_.out (by kernel_rfl)) (by decide) (fun K hK => ?_)
             refine gs_ Try.func22 #[.slice A0 l0.length c0, .agg #[.int .i64 a1_0, .string a1_1, .int .i64 a1_2, .bool a1_3, .int .i64 a1_4, .string a1_5, .int .i64 a1_6, .string a1_7, .slice A1_8 l1_8.length c1_8], .slice A574_0 (rd_L8 l2 x11_3).length c574_0] ?_
             with_reducible refine (eval_Row.calls k3 _ _ l0 a1_0 a1_1 a1_2 a1_3 a1_4 a1_5 a1_6 a1_7 _ _ l1_8 _ _ (rd_L8 l2 x11_3) t575 t576 _ ?side1 ?side2 ?side3 ?side4 ?side5 ?side6 A29.out).mono ?_
             (case side1 => repeat (first | exact (Kd.C_below HR0.out HB.out) | (with_reducible refine Kd.C_alloc ?_ _) | (with_reducible refine Kd.C_drewN ?_ _) | (with_reducible refine Kd.C_drew ?_)))
             (case side2 => exact HC0.out)
             (case side3 => repeat (first | exact (Kd.C_below HR1_8.out HB.out) | (with_reducible refine Kd.C_alloc ?_ _) | (with_reducible refine Kd.C_drewN ?_ _) | (with_reducible refine Kd.C_drew ?_)))
             (case side4 => exact HC1_8.out)
             (case side5 => repeat (first | exact (Kd.C_below HR574_0.out HB.out) | (with_reducible refine Kd.C_alloc ?_ _) | (with_reducible refine Kd.C_drewN ?_ _) | (with_reducible refine Kd.C_drew ?_)))
             (case side6 => exact HC574_0.out)
             rintro e w35 ⟨rfl, hb⟩
             refine ⟨_, rfl, ?_⟩
             replace BK559 := bk_ BK559 hb; replace HB := bs_ HB hb
             (try clear hb)
             (try clear hb2)
             (try clear hk)
             (try clear hi)
             refine hK.out _ _ ⟨(blk_cell BK559.out 0).trans rfl, (blk_cell BK559.out 1).trans rfl, (blk_cell BK559.out 2).trans rfl, (blk_cell BK559.out 3).trans rfl, (blk_cell BK559.out 4).trans rfl, (blk_cell BK559.out 5).trans rfl, (blk_cell BK559.out 6).trans rfl, (blk_cell BK559.out 7).trans rfl, (blk_cell BK559.out 8).trans rfl, ((HB.out.cell (World.block_lt_of_cell? w _ hw574_0)).trans hw574_0)⟩ (fun hHeld => ?_)
             clear hK K
             refine norm_ (a' := ?_) ?_ ?_
             rotate_left
             ·show Act.put _ (some 63) _ = _
              simp only [Act.put, List.setIfInBounds_toArray, List.set_cons_zero, List.set_cons_succ, i64_w, i32_w]
              rfl
             refine pu_ 7 (some 56) (bl_ 12 255) ?_
             refine pu_ 8 (some 64) (bl_ 12 511) ?_
             refine pu_ 9 (some 65) (bl_ 12 1023) ?_
             refine pu_ 10 (some 12) (bl_ 12 2047) ?_
             refine pu_ 11 (some 13) (bl_ 12 4095) ?_
             refine done_ (done_of HT_.out (by kernel_rfl)) ?_
             try go_wp2
             replace BK559 := Aside0.mk (blk_drew BK559.out); replace HB := Aside0.mk (below_drew1 HB.out)
             have p577 : 0 ≤ (x11_3 : Int) := dt_
             have q577 : x11_3 < (l2.length : Int) := dt_
             obtain ⟨ad577, A577_0, c577_0, e577, hx577_0, hl577_0, hi577_0⟩ := at_L8 HR2.out x11_3 p577 q577
             have hw577_0 := hx577_0
             obtain rfl : ad574 = ad577 := (by injection e577)
             replace hx577_0 := hc_ HB hx577_0
             have HR577_0 := Aside0.mk hi577_0
             have HC577_0 := Aside0.mk hl577_0
             clear hi577_0 hl577_0
             replace p577 := eq_true p577
             replace q577 := eq_true q577
             refine start_ (n := 12) (S := fun w' => w'.cell? ⟨gb559, 0, none⟩ = some (.int .i64 a1_0) ∧ w'.cell? ⟨gb559, 1, none⟩ = some (.string a1_1) ∧ w'.cell? ⟨gb559, 2, none⟩ = some (.int .i64 a1_2) ∧ w'.cell? ⟨gb559, 3, none⟩ = some (.bool a1_3) ∧ w'.cell? ⟨gb559, 4, none⟩ = some (.int .i64 a1_4) ∧ w'.cell? ⟨gb559, 5, none⟩ = some (.string a1_5) ∧ w'.cell? ⟨gb559, 6, none⟩ = some (.int .i64 a1_6) ∧ w'.cell? ⟨gb559, 7, none⟩ = some (.string a1_7) ∧ w'.cell? ⟨gb559, 8, none⟩ = some (.slice A1_8 l1_8.length c1_8) ∧ w'.cell? (ad574.add (x11_3).toNat) = some (.slice A577_0 (rd_L8 l2 x11_3).length c577_0)) (ds := []) #[false, false, false, false, false, false, false, false, false, false, false, false] (by kernel_rfl) rfl rfl ⟨(blk_cell BK559.out 0).trans rfl, (blk_cell BK559.out 1).trans rfl, (blk_cell BK559.out 2).trans rfl, (blk_cell BK559.out 3).trans rfl, (blk_cell BK559.out 4).trans rfl, (blk_cell BK559.out 5).trans rfl, (blk_cell BK559.out 6).trans rfl, (blk_cell BK559.out 7).trans rfl, (blk_cell BK559.out 8).trans rfl, ((HB.out.cell (World.block_lt_of_cell? w _ hw577_0)).trans hw577_0)⟩ (fun hHeld => ?_); refine with_tabW firkinlaw20_EvalRows.tab11 firkinlaw20_EvalRows.bits11 (fun HT_ HW_ => ?_)
             generalize w35.drew = w36 at BK559 HB HR577_0 hx577_0 hHeld ⊢
             refine pu_ 0 (some 67) (bl_ 12 1) ?_
             refine pu_ 2 (some 69) (bl_ 12 5) ?_
             refine pu_ 3 (some 70) (bl_ 12 13) ?_
             refine pu_ 4 (some 71) (bl_ 12 29) ?_
             refine ta_ 1 (some 68) (bl_ 12 31) hHeld ?_
             refine ta_ 5 (some 72) (bl_ 12 63) hHeld ?_
             refine one_ (i := 6) (N := some 73) #[true, true, true, true, true, true, true, false, false, false, false, false] rfl rfl (one_of HT_.out (by kernel_rfl)) (by decide) (fun K hK => ?_)
             refine gs_ Try.func26 #[.slice A0 l0.length c0, .agg #[.int .i64 a1_0, .string a1_1, .int .i64 a1_2, .bool a1_3, .int .i64 a1_4, .string a1_5, .int .i64 a1_6, .string a1_7, .slice A1_8 l1_8.length c1_8], .slice A577_0 (rd_L8 l2 x11_3).length c577_0] ?_
             with_reducible refine (firkinref20_Row.calls k3 _ _ l0 a1_0 a1_1 a1_2 a1_3 a1_4 a1_5 a1_6 a1_7 _ _ l1_8 _ _ (rd_L8 l2 x11_3) t578 t579 _ ?side1 ?side2 ?side3 ?side4 ?side5 ?side6 A30.out).mono ?_
             (case side1 => repeat (first | exact (Kd.C_below HR0.out HB.out) | (with_reducible refine Kd.C_alloc ?_ _) | (with_reducible refine Kd.C_drewN ?_ _) | (with_reducible refine Kd.C_drew ?_)))
             (case side2 => exact HC0.out)
             (case side3 => repeat (first | exact (Kd.C_below HR1_8.out HB.out) | (with_reducible refine Kd.C_alloc ?_ _) | (with_reducible refine Kd.C_drewN ?_ _) | (with_reducible refine Kd.C_drew ?_)))
             (case side4 => exact HC1_8.out)
             (case side5 => repeat (first | exact (Kd.C_below HR577_0.out HB.out) | (with_reducible refine Kd.C_alloc ?_ _) | (with_reducible refine Kd.C_drewN ?_ _) | (with_reducible refine Kd.C_drew ?_)))
             (case side6 => exact HC577_0.out)
             rintro e w37 ⟨rfl, hb⟩
             refine ⟨_, rfl, ?_⟩
             replace BK559 := bk_ BK559 hb; replace HB := bs_ HB hb
             (try clear hb)
             (try clear hb2)
             (try clear hk)
             (try clear hi)
             refine hK.out _ _ ⟨(blk_cell BK559.out 0).trans rfl, (blk_cell BK559.out 1).trans rfl, (blk_cell BK559.out 2).trans rfl, (blk_cell BK559.out 3).trans rfl, (blk_cell BK559.out 4).trans rfl, (blk_cell BK559.out 5).trans rfl, (blk_cell BK559.out 6).trans rfl, (blk_cell BK559.out 7).trans rfl, (blk_cell BK559.out 8).trans rfl, ((HB.out.cell (World.block_lt_of_cell? w _ hw577_0)).trans hw577_0)⟩ (fun hHeld => ?_)
             clear hK K
             refine norm_ (a' := ?_) ?_ ?_
             rotate_left
             ·show Act.put _ (some 73) _ = _
              simp only [Act.put, List.setIfInBounds_toArray, List.set_cons_zero, List.set_cons_succ, i64_w, i32_w]
              rfl
             refine pu_ 7 (some 66) (bl_ 12 255) ?_
             refine pu_ 8 (some 74) (bl_ 12 511) ?_
             refine pu_ 9 (some 75) (bl_ 12 1023) ?_
             refine pu_ 10 (some 14) (bl_ 12 2047) ?_
             refine pu_ 11 (some 15) (bl_ 12 4095) ?_
             refine done_ (done_of HT_.out (by kernel_rfl)) ?_
             try go_wp2_with (first | (go_at_call 23; (with_reducible refine (firkinlaw20_num.calls t576 t580 _ A32.out).mono ?_); rintro e w' ⟨rfl, ⟨nd, rfl⟩⟩))
             go_roundg k3
             case measure => have := HJ3.out; have := HJ15.out; have := HK3.out; omega
             case rel => exact ⟨_, (by first | rfl | (simp; done) | (simp [*]; done)), H', ⟨by have := HJ3.out; have := HJ15.out; have := HK3.out; omega⟩, ⟨by (with_reducible repeat (first | refine blk_drewN ?_ _ | refine blk_drew ?_ | refine blk_alloc ?_ _)); exact BK559.out⟩, ⟨by repeat (first | (with_reducible first | exact HB.out | apply below_alloc | apply pw_below_drewN | apply below_drew1 | refine below_set ?_ GE559.out) | exact HB.out)⟩⟩
            ·rw [if_neg c33] at H
             have c33b0 : (t580 == t579) = false := beq_eq_false_iff_ne.mpr c33
             have c33b1 : (t580 != t579) = true := bne_iff_ne.mpr c33
             obtain rfl := Option.some.inj H
             try go_wp2
             replace BK559 := Aside0.mk (blk_drew BK559.out); replace HB := Aside0.mk (below_drew1 HB.out)
             have p574 : 0 ≤ (x11_3 : Int) := dt_
             have q574 : x11_3 < (l2.length : Int) := dt_
             obtain ⟨ad574, A574_0, c574_0, e574, hx574_0, hl574_0, hi574_0⟩ := at_L8 HR2.out x11_3 p574 q574
             have hw574_0 := hx574_0
             cases e574
             replace hx574_0 := hc_ HB hx574_0
             have HR574_0 := Aside0.mk hi574_0
             have HC574_0 := Aside0.mk hl574_0
             clear hi574_0 hl574_0
             replace p574 := eq_true p574
             replace q574 := eq_true q574
             refine start_ (n := 12) (S := fun w' => w'.cell? ⟨gb559, 0, none⟩ = some (.int .i64 a1_0) ∧ w'.cell? ⟨gb559, 1, none⟩ = some (.string a1_1) ∧ w'.cell? ⟨gb559, 2, none⟩ = some (.int .i64 a1_2) ∧ w'.cell? ⟨gb559, 3, none⟩ = some (.bool a1_3) ∧ w'.cell? ⟨gb559, 4, none⟩ = some (.int .i64 a1_4) ∧ w'.cell? ⟨gb559, 5, none⟩ = some (.string a1_5) ∧ w'.cell? ⟨gb559, 6, none⟩ = some (.int .i64 a1_6) ∧ w'.cell? ⟨gb559, 7, none⟩ = some (.string a1_7) ∧ w'.cell? ⟨gb559, 8, none⟩ = some (.slice A1_8 l1_8.length c1_8) ∧ w'.cell? (ad574.add (x11_3).toNat) = some (.slice A574_0 (rd_L8 l2 x11_3).length c574_0)) (ds := []) #[false, false, false, false, false, false, false, false, false, false, false, false] (by kernel_rfl) rfl rfl ⟨(blk_cell BK559.out 0).trans rfl, (blk_cell BK559.out 1).trans rfl, (blk_cell BK559.out 2).trans rfl, (blk_cell BK559.out 3).trans rfl, (blk_cell BK559.out 4).trans rfl, (blk_cell BK559.out 5).trans rfl, (blk_cell BK559.out 6).trans rfl, (blk_cell BK559.out 7).trans rfl, (blk_cell BK559.out 8).trans rfl, ((HB.out.cell (World.block_lt_of_cell? w _ hw574_0)).trans hw574_0)⟩ (fun hHeld => ?_); refine with_tabW firkinlaw20_EvalRows.tab10 firkinlaw20_EvalRows.bits10 (fun HT_ HW_ => ?_)
             generalize wr.drew = w38 at BK559 HB HR574_0 hx574_0 hHeld ⊢
             refine pu_ 0 (some 57) (bl_ 12 1) ?_
             refine pu_ 2 (some 59) (bl_ 12 5) ?_
             refine pu_ 3 (some 60) (bl_ 12 13) ?_
             refine pu_ 4 (some 61) (bl_ 12 29) ?_
             refine ta_ 1 (some 58) (bl_ 12 31) hHeld ?_
             refine ta_ 5 (some 62) (bl_ 12 63) hHeld ?_
             refine one_ (i := 6) (N := some 63) #[true, true, true, true, true, true, true, false, false, false, false, false] rfl rfl (one_of HT_.out (by kernel_rfl)) (by decide) (fun K hK => ?_)
             refine gs_ Try.func22 #[.slice A0 l0.length c0, .agg #[.int .i64 a1_0, .string a1_1, .int .i64 a1_2, .bool a1_3, .int .i64 a1_4, .string a1_5, .int .i64 a1_6, .string a1_7, .slice A1_8 l1_8.length c1_8], .slice A574_0 (rd_L8 l2 x11_3).length c574_0] ?_
             with_reducible refine (eval_Row.calls k3 _ _ l0 a1_0 a1_1 a1_2 a1_3 a1_4 a1_5 a1_6 a1_7 _ _ l1_8 _ _ (rd_L8 l2 x11_3) t575 t576 _ ?side1 ?side2 ?side3 ?side4 ?side5 ?side6 A29.out).mono ?_
             (case side1 => repeat (first | exact (Kd.C_below HR0.out HB.out) | (with_reducible refine Kd.C_alloc ?_ _) | (with_reducible refine Kd.C_drewN ?_ _) | (with_reducible refine Kd.C_drew ?_)))
             (case side2 => exact HC0.out)
             (case side3 => repeat (first | exact (Kd.C_below HR1_8.out HB.out) | (with_reducible refine Kd.C_alloc ?_ _) | (with_reducible refine Kd.C_drewN ?_ _) | (with_reducible refine Kd.C_drew ?_)))
             (case side4 => exact HC1_8.out)
             (case side5 => repeat (first | exact (Kd.C_below HR574_0.out HB.out) | (with_reducible refine Kd.C_alloc ?_ _) | (with_reducible refine Kd.C_drewN ?_ _) | (with_reducible refine Kd.C_drew ?_)))
             (case side6 => exact HC574_0.out)
             rintro e w39 ⟨rfl, hb⟩
             refine ⟨_, rfl, ?_⟩
             replace BK559 := bk_ BK559 hb; replace HB := bs_ HB hb
             (try clear hb)
             (try clear hb2)
             (try clear hk)
             (try clear hi)
             refine hK.out _ _ ⟨(blk_cell BK559.out 0).trans rfl, (blk_cell BK559.out 1).trans rfl, (blk_cell BK559.out 2).trans rfl, (blk_cell BK559.out 3).trans rfl, (blk_cell BK559.out 4).trans rfl, (blk_cell BK559.out 5).trans rfl, (blk_cell BK559.out 6).trans rfl, (blk_cell BK559.out 7).trans rfl, (blk_cell BK559.out 8).trans rfl, ((HB.out.cell (World.block_lt_of_cell? w _ hw574_0)).trans hw574_0)⟩ (fun hHeld => ?_)
             clear hK K
             refine norm_ (a' := ?_) ?_ ?_
             rotate_left
             ·show Act.put _ (some 63) _ = _
              simp only [Act.put, List.setIfInBounds_toArray, List.set_cons_zero, List.set_cons_succ, i64_w, i32_w]
              rfl
             refine pu_ 7 (some 56) (bl_ 12 255) ?_
             refine pu_ 8 (some 64) (bl_ 12 511) ?_
             refine pu_ 9 (some 65) (bl_ 12 1023) ?_
             refine pu_ 10 (some 12) (bl_ 12 2047) ?_
             refine pu_ 11 (some 13) (bl_ 12 4095) ?_
             refine done_ (done_of HT_.out (by kernel_rfl)) ?_
             try go_wp2
             replace BK559 := Aside0.mk (blk_drew BK559.out); replace HB := Aside0.mk (below_drew1 HB.out)
             have p577 : 0 ≤ (x11_3 : Int) := dt_
             have q577 : x11_3 < (l2.length : Int) := dt_
             obtain ⟨ad577, A577_0, c577_0, e577, hx577_0, hl577_0, hi577_0⟩ := at_L8 HR2.out x11_3 p577 q577
             have hw577_0 := hx577_0
             obtain rfl : ad574 = ad577 := (by injection e577)
             replace hx577_0 := hc_ HB hx577_0
             have HR577_0 := Aside0.mk hi577_0
             have HC577_0 := Aside0.mk hl577_0
             clear hi577_0 hl577_0
             replace p577 := eq_true p577
             replace q577 := eq_true q577
             refine start_ (n := 12) (S := fun w' => w'.cell? ⟨gb559, 0, none⟩ = some (.int .i64 a1_0) ∧ w'.cell? ⟨gb559, 1, none⟩ = some (.string a1_1) ∧ w'.cell? ⟨gb559, 2, none⟩ = some (.int .i64 a1_2) ∧ w'.cell? ⟨gb559, 3, none⟩ = some (.bool a1_3) ∧ w'.cell? ⟨gb559, 4, none⟩ = some (.int .i64 a1_4) ∧ w'.cell? ⟨gb559, 5, none⟩ = some (.string a1_5) ∧ w'.cell? ⟨gb559, 6, none⟩ = some (.int .i64 a1_6) ∧ w'.cell? ⟨gb559, 7, none⟩ = some (.string a1_7) ∧ w'.cell? ⟨gb559, 8, none⟩ = some (.slice A1_8 l1_8.length c1_8) ∧ w'.cell? (ad574.add (x11_3).toNat) = some (.slice A577_0 (rd_L8 l2 x11_3).length c577_0)) (ds := []) #[false, false, false, false, false, false, false, false, false, false, false, false] (by kernel_rfl) rfl rfl ⟨(blk_cell BK559.out 0).trans rfl, (blk_cell BK559.out 1).trans rfl, (blk_cell BK559.out 2).trans rfl, (blk_cell BK559.out 3).trans rfl, (blk_cell BK559.out 4).trans rfl, (blk_cell BK559.out 5).trans rfl, (blk_cell BK559.out 6).trans rfl, (blk_cell BK559.out 7).trans rfl, (blk_cell BK559.out 8).trans rfl, ((HB.out.cell (World.block_lt_of_cell? w _ hw577_0)).trans hw577_0)⟩ (fun hHeld => ?_); refine with_tabW firkinlaw20_EvalRows.tab11 firkinlaw20_EvalRows.bits11 (fun HT_ HW_ => ?_)
             generalize w39.drew = w40 at BK559 HB HR577_0 hx577_0 hHeld ⊢
             refine pu_ 0 (some 67) (bl_ 12 1) ?_
             refine pu_ 2 (some 69) (bl_ 12 5) ?_
             refine pu_ 3 (some 70) (bl_ 12 13) ?_
             refine pu_ 4 (some 71) (bl_ 12 29) ?_
             refine ta_ 1 (some 68) (bl_ 12 31) hHeld ?_
             refine ta_ 5 (some 72) (bl_ 12 63) hHeld ?_
             refine one_ (i := 6) (N := some 73) #[true, true, true, true, true, true, true, false, false, false, false, false] rfl rfl (one_of HT_.out (by kernel_rfl)) (by decide) (fun K hK => ?_)
             refine gs_ Try.func26 #[.slice A0 l0.length c0, .agg #[.int .i64 a1_0, .string a1_1, .int .i64 a1_2, .bool a1_3, .int .i64 a1_4, .string a1_5, .int .i64 a1_6, .string a1_7, .slice A1_8 l1_8.length c1_8], .slice A577_0 (rd_L8 l2 x11_3).length c577_0] ?_
             with_reducible refine (firkinref20_Row.calls k3 _ _ l0 a1_0 a1_1 a1_2 a1_3 a1_4 a1_5 a1_6 a1_7 _ _ l1_8 _ _ (rd_L8 l2 x11_3) t578 t579 _ ?side1 ?side2 ?side3 ?side4 ?side5 ?side6 A30.out).mono ?_
             (case side1 => repeat (first | exact (Kd.C_below HR0.out HB.out) | (with_reducible refine Kd.C_alloc ?_ _) | (with_reducible refine Kd.C_drewN ?_ _) | (with_reducible refine Kd.C_drew ?_)))
             (case side2 => exact HC0.out)
             (case side3 => repeat (first | exact (Kd.C_below HR1_8.out HB.out) | (with_reducible refine Kd.C_alloc ?_ _) | (with_reducible refine Kd.C_drewN ?_ _) | (with_reducible refine Kd.C_drew ?_)))
             (case side4 => exact HC1_8.out)
             (case side5 => repeat (first | exact (Kd.C_below HR577_0.out HB.out) | (with_reducible refine Kd.C_alloc ?_ _) | (with_reducible refine Kd.C_drewN ?_ _) | (with_reducible refine Kd.C_drew ?_)))
             (case side6 => exact HC577_0.out)
             rintro e w41 ⟨rfl, hb⟩
             refine ⟨_, rfl, ?_⟩
             replace BK559 := bk_ BK559 hb; replace HB := bs_ HB hb
             (try clear hb)
             (try clear hb2)
             (try clear hk)
             (try clear hi)
             refine hK.out _ _ ⟨(blk_cell BK559.out 0).trans rfl, (blk_cell BK559.out 1).trans rfl, (blk_cell BK559.out 2).trans rfl, (blk_cell BK559.out 3).trans rfl, (blk_cell BK559.out 4).trans rfl, (blk_cell BK559.out 5).trans rfl, (blk_cell BK559.out 6).trans rfl, (blk_cell BK559.out 7).trans rfl, (blk_cell BK559.out 8).trans rfl, ((HB.out.cell (World.block_lt_of_cell? w _ hw577_0)).trans hw577_0)⟩ (fun hHeld => ?_)
             clear hK K
             refine norm_ (a' := ?_) ?_ ?_
             rotate_left
             ·show Act.put _ (some 73) _ = _
              simp only [Act.put, List.setIfInBounds_toArray, List.set_cons_zero, List.set_cons_succ, i64_w, i32_w]
              rfl
             refine pu_ 7 (some 66) (bl_ 12 255) ?_
             refine pu_ 8 (some 74) (bl_ 12 511) ?_
             refine pu_ 9 (some 75) (bl_ 12 1023) ?_
             refine pu_ 10 (some 14) (bl_ 12 2047) ?_
             refine pu_ 11 (some 15) (bl_ 12 4095) ?_
             refine done_ (done_of HT_.out (by kernel_rfl)) ?_
             try go_wp2_with (first | (go_at_call 23; (with_reducible refine (firkinlaw20_num.calls t576 t580 _ A32.out).mono ?_); rintro e w' ⟨rfl, ⟨nd, rfl⟩⟩))
             go_ret
             exact en_ HB
           ·rw [if_neg c31] at H
            have c31b0 : (t575 == t578) = false := beq_eq_false_iff_ne.mpr c31
            have c31b1 : (t575 != t578) = true := bne_iff_ne.mpr c31
            obtain rfl := Option.some.inj H
            try go_wp2
            replace BK559 := Aside0.mk (blk_drew BK559.out); replace HB := Aside0.mk (below_drew1 HB.out)
            have p574 : 0 ≤ (x11_3 : Int) := dt_
            have q574 : x11_3 < (l2.length : Int) := dt_
            obtain ⟨ad574, A574_0, c574_0, e574, hx574_0, hl574_0, hi574_0⟩ := at_L8 HR2.out x11_3 p574 q574
            have hw574_0 := hx574_0
            cases e574
            replace hx574_0 := hc_ HB hx574_0
            have HR574_0 := Aside0.mk hi574_0
            have HC574_0 := Aside0.mk hl574_0
            clear hi574_0 hl574_0
            replace p574 := eq_true p574
            replace q574 := eq_true q574
            refine start_ (n := 12) (S := fun w' => w'.cell? ⟨gb559, 0, none⟩ = some (.int .i64 a1_0) ∧ w'.cell? ⟨gb559, 1, none⟩ = some (.string a1_1) ∧ w'.cell? ⟨gb559, 2, none⟩ = some (.int .i64 a1_2) ∧ w'.cell? ⟨gb559, 3, none⟩ = some (.bool a1_3) ∧ w'.cell? ⟨gb559, 4, none⟩ = some (.int .i64 a1_4) ∧ w'.cell? ⟨gb559, 5, none⟩ = some (.string a1_5) ∧ w'.cell? ⟨gb559, 6, none⟩ = some (.int .i64 a1_6) ∧ w'.cell? ⟨gb559, 7, none⟩ = some (.string a1_7) ∧ w'.cell? ⟨gb559, 8, none⟩ = some (.slice A1_8 l1_8.length c1_8) ∧ w'.cell? (ad574.add (x11_3).toNat) = some (.slice A574_0 (rd_L8 l2 x11_3).length c574_0)) (ds := []) #[false, false, false, false, false, false, false, false, false, false, false, false] (by kernel_rfl) rfl rfl ⟨(blk_cell BK559.out 0).trans rfl, (blk_cell BK559.out 1).trans rfl, (blk_cell BK559.out 2).trans rfl, (blk_cell BK559.out 3).trans rfl, (blk_cell BK559.out 4).trans rfl, (blk_cell BK559.out 5).trans rfl, (blk_cell BK559.out 6).trans rfl, (blk_cell BK559.out 7).trans rfl, (blk_cell BK559.out 8).trans rfl, ((HB.out.cell (World.block_lt_of_cell? w _ hw574_0)).trans hw574_0)⟩ (fun hHeld => ?_); refine with_tabW firkinlaw20_EvalRows.tab10 firkinlaw20_EvalRows.bits10 (fun HT_ HW_ => ?_)
            generalize wr.drew = w42 at BK559 HB HR574_0 hx574_0 hHeld ⊢
            refine pu_ 0 (some 57) (bl_ 12 1) ?_
            refine pu_ 2 (some 59) (bl_ 12 5) ?_
            refine pu_ 3 (some 60) (bl_ 12 13) ?_
            refine pu_ 4 (some 61) (bl_ 12 29) ?_
            refine ta_ 1 (some 58) (bl_ 12 31) hHeld ?_
            refine ta_ 5 (some 62) (bl_ 12 63) hHeld ?_
            refine one_ (i := 6) (N := some 63) #[true, true, true, true, true, true, true, false, false, false, false, false] rfl rfl (one_of HT_.out (by kernel_rfl)) (by decide) (fun K hK => ?_)
            refine gs_ Try.func22 #[.slice A0 l0.length c0, .agg #[.int .i64 a1_0, .string a1_1, .int .i64 a1_2, .bool a1_3, .int .i64 a1_4, .string a1_5, .int .i64 a1_6, .string a1_7, .slice A1_8 l1_8.length c1_8], .slice A574_0 (rd_L8 l2 x11_3).length c574_0] ?_
            with_reducible refine (eval_Row.calls k3 _ _ l0 a1_0 a1_1 a1_2 a1_3 a1_4 a1_5 a1_6 a1_7 _ _ l1_8 _ _ (rd_L8 l2 x11_3) t575 t576 _ ?side1 ?side2 ?side3 ?side4 ?side5 ?side6 A29.out).mono ?_
            (case side1 => repeat (first | exact (Kd.C_below HR0.out HB.out) | (with_reducible refine Kd.C_alloc ?_ _) | (with_reducible refine Kd.C_drewN ?_ _) | (with_reducible refine Kd.C_drew ?_)))
            (case side2 => exact HC0.out)
            (case side3 => repeat (first | exact (Kd.C_below HR1_8.out HB.out) | (with_reducible refine Kd.C_alloc ?_ _) | (with_reducible refine Kd.C_drewN ?_ _) | (with_reducible refine Kd.C_drew ?_)))
            (case side4 => exact HC1_8.out)
            (case side5 => repeat (first | exact (Kd.C_below HR574_0.out HB.out) | (with_reducible refine Kd.C_alloc ?_ _) | (with_reducible refine Kd.C_drewN ?_ _) | (with_reducible refine Kd.C_drew ?_)))
            (case side6 => exact HC574_0.out)
            rintro e w43 ⟨rfl, hb⟩
            refine ⟨_, rfl, ?_⟩
            replace BK559 := bk_ BK559 hb; replace HB := bs_ HB hb
            (try clear hb)
            (try clear hb2)
            (try clear hk)
            (try clear hi)
            refine hK.out _ _ ⟨(blk_cell BK559.out 0).trans rfl, (blk_cell BK559.out 1).trans rfl, (blk_cell BK559.out 2).trans rfl, (blk_cell BK559.out 3).trans rfl, (blk_cell BK559.out 4).trans rfl, (blk_cell BK559.out 5).trans rfl, (blk_cell BK559.out 6).trans rfl, (blk_cell BK559.out 7).trans rfl, (blk_cell BK559.out 8).trans rfl, ((HB.out.cell (World.block_lt_of_cell? w _ hw574_0)).trans hw574_0)⟩ (fun hHeld => ?_)
            clear hK K
            refine norm_ (a' := ?_) ?_ ?_
            rotate_left
            ·show Act.put _ (some 63) _ = _
             simp only [Act.put, List.setIfInBounds_toArray, List.set_cons_zero, List.set_cons_succ, i64_w, i32_w]
             rfl
            refine pu_ 7 (some 56) (bl_ 12 255) ?_
            refine pu_ 8 (some 64) (bl_ 12 511) ?_
            refine pu_ 9 (some 65) (bl_ 12 1023) ?_
            refine pu_ 10 (some 12) (bl_ 12 2047) ?_
            refine pu_ 11 (some 13) (bl_ 12 4095) ?_
            refine done_ (done_of HT_.out (by kernel_rfl)) ?_
            try go_wp2
            replace BK559 := Aside0.mk (blk_drew BK559.out); replace HB := Aside0.mk (below_drew1 HB.out)
            have p577 : 0 ≤ (x11_3 : Int) := dt_
            have q577 : x11_3 < (l2.length : Int) := dt_
            obtain ⟨ad577, A577_0, c577_0, e577, hx577_0, hl577_0, hi577_0⟩ := at_L8 HR2.out x11_3 p577 q577
            have hw577_0 := hx577_0
            obtain rfl : ad574 = ad577 := (by injection e577)
            replace hx577_0 := hc_ HB hx577_0
            have HR577_0 := Aside0.mk hi577_0
            have HC577_0 := Aside0.mk hl577_0
            clear hi577_0 hl577_0
            replace p577 := eq_true p577
            replace q577 := eq_true q577
            refine start_ (n := 12) (S := fun w' => w'.cell? ⟨gb559, 0, none⟩ = some (.int .i64 a1_0) ∧ w'.cell? ⟨gb559, 1, none⟩ = some (.string a1_1) ∧ w'.cell? ⟨gb559, 2, none⟩ = some (.int .i64 a1_2) ∧ w'.cell? ⟨gb559, 3, none⟩ = some (.bool a1_3) ∧ w'.cell? ⟨gb559, 4, none⟩ = some (.int .i64 a1_4) ∧ w'.cell? ⟨gb559, 5, none⟩ = some (.string a1_5) ∧ w'.cell? ⟨gb559, 6, none⟩ = some (.int .i64 a1_6) ∧ w'.cell? ⟨gb559, 7, none⟩ = some (.string a1_7) ∧ w'.cell? ⟨gb559, 8, none⟩ = some (.slice A1_8 l1_8.length c1_8) ∧ w'.cell? (ad574.add (x11_3).toNat) = some (.slice A577_0 (rd_L8 l2 x11_3).length c577_0)) (ds := []) #[false, false, false, false, false, false, false, false, false, false, false, false] (by kernel_rfl) rfl rfl ⟨(blk_cell BK559.out 0).trans rfl, (blk_cell BK559.out 1).trans rfl, (blk_cell BK559.out 2).trans rfl, (blk_cell BK559.out 3).trans rfl, (blk_cell BK559.out 4).trans rfl, (blk_cell BK559.out 5).trans rfl, (blk_cell BK559.out 6).trans rfl, (blk_cell BK559.out 7).trans rfl, (blk_cell BK559.out 8).trans rfl, ((HB.out.cell (World.block_lt_of_cell? w _ hw577_0)).trans hw577_0)⟩ (fun hHeld => ?_); refine with_tabW firkinlaw20_EvalRows.tab11 firkinlaw20_EvalRows.bits11 (fun HT_ HW_ => ?_)
            generalize w43.drew = w44 at BK559 HB HR577_0 hx577_0 hHeld ⊢
            refine pu_ 0 (some 67) (bl_ 12 1) ?_
            refine pu_ 2 (some 69) (bl_ 12 5) ?_
            refine pu_ 3 (some 70) (bl_ 12 13) ?_
            refine pu_ 4 (some 71) (bl_ 12 29) ?_
            refine ta_ 1 (some 68) (bl_ 12 31) hHeld ?_
            refine ta_ 5 (some 72) (bl_ 12 63) hHeld ?_
            refine one_ (i := 6) (N := some 73) #[true, true, true, true, true, true, true, false, false, false, false, false] rfl rfl (one_of HT_.out (by kernel_rfl)) (by decide) (fun K hK => ?_)
            refine gs_ Try.func26 #[.slice A0 l0.length c0, .agg #[.int .i64 a1_0, .string a1_1, .int .i64 a1_2, .bool a1_3, .int .i64 a1_4, .string a1_5, .int .i64 a1_6, .string a1_7, .slice A1_8 l1_8.length c1_8], .slice A577_0 (rd_L8 l2 x11_3).length c577_0] ?_
            with_reducible refine (firkinref20_Row.calls k3 _ _ l0 a1_0 a1_1 a1_2 a1_3 a1_4 a1_5 a1_6 a1_7 _ _ l1_8 _ _ (rd_L8 l2 x11_3) t578 t579 _ ?side1 ?side2 ?side3 ?side4 ?side5 ?side6 A30.out).mono ?_
            (case side1 => repeat (first | exact (Kd.C_below HR0.out HB.out) | (with_reducible refine Kd.C_alloc ?_ _) | (with_reducible refine Kd.C_drewN ?_ _) | (with_reducible refine Kd.C_drew ?_)))
            (case side2 => exact HC0.out)
            (case side3 => repeat (first | exact (Kd.C_below HR1_8.out HB.out) | (with_reducible refine Kd.C_alloc ?_ _) | (with_reducible refine Kd.C_drewN ?_ _) | (with_reducible refine Kd.C_drew ?_)))
            (case side4 => exact HC1_8.out)
            (case side5 => repeat (first | exact (Kd.C_below HR577_0.out HB.out) | (with_reducible refine Kd.C_alloc ?_ _) | (with_reducible refine Kd.C_drewN ?_ _) | (with_reducible refine Kd.C_drew ?_)))
            (case side6 => exact HC577_0.out)
            rintro e w45 ⟨rfl, hb⟩
            refine ⟨_, rfl, ?_⟩
            replace BK559 := bk_ BK559 hb; replace HB := bs_ HB hb
            (try clear hb)
            (try clear hb2)
            (try clear hk)
            (try clear hi)
            refine hK.out _ _ ⟨(blk_cell BK559.out 0).trans rfl, (blk_cell BK559.out 1).trans rfl, (blk_cell BK559.out 2).trans rfl, (blk_cell BK559.out 3).trans rfl, (blk_cell BK559.out 4).trans rfl, (blk_cell BK559.out 5).trans rfl, (blk_cell BK559.out 6).trans rfl, (blk_cell BK559.out 7).trans rfl, (blk_cell BK559.out 8).trans rfl, ((HB.out.cell (World.block_lt_of_cell? w _ hw577_0)).trans hw577_0)⟩ (fun hHeld => ?_)
            clear hK K
            refine norm_ (a' := ?_) ?_ ?_
            rotate_left
            ·show Act.put _ (some 73) _ = _
             simp only [Act.put, List.setIfInBounds_toArray, List.set_cons_zero, List.set_cons_succ, i64_w, i32_w]
             rfl
            refine pu_ 7 (some 66) (bl_ 12 255) ?_
            refine pu_ 8 (some 74) (bl_ 12 511) ?_
            refine pu_ 9 (some 75) (bl_ 12 1023) ?_
            refine pu_ 10 (some 14) (bl_ 12 2047) ?_
            refine pu_ 11 (some 15) (bl_ 12 4095) ?_
            refine done_ (done_of HT_.out (by kernel_rfl)) ?_
            try go_wp2
            go_ret
            exact en_ HB
          ·rw [if_neg c28] at H
           exact absurd H (by simp)
         ·rw [if_neg c27] at H
          have c27b0 : decide (x11_3 < (l2.length : Int)) = false := decide_eq_false c27
          clear c27
          replace H := Option.bind_eq_some_iff.mp H
          obtain ⟨t573, A460, H⟩ := H
          replace H : (some t573) = some r := H
          have A46 := Aside0.mk A460
          clear A460
          obtain rfl := Option.some.inj H
          go_wp2_with (first | ((with_reducible refine gate_callee (f := 21) rfl ?_); refine gl_ (some 85) rfl Try.func21 #[] ?_; (with_reducible refine (firkinlaw20_live.calls k3  t573 _ A46.out).mono ?_); rintro e w47 ⟨rfl, hb⟩; refine ⟨_, rfl, ?_⟩;  replace BK559 := bk_ BK559 hb; replace HB := bs_ HB hb; (try clear hb); (try clear hb2); (try clear hk); (try clear hi)))
          go_ret
          exact en_ HB
end Go.Proofs.Ytdedmhmomoejkaa.X
namespace Go.Proofs.Ytdedmhmomoejkaa.X
open Go.RowKit Go.Proofs.YtdedmhmomoejkaaW.PrintWords Go.Proofs.YtdedmhmomoejkaaW.PrintLast
set_option linter.unusedVariables false
set_option linter.unusedSimpArgs false
theorem ints_same (l : List Int) (hl : l.length ≤ 9223372036854775806) : TotP (fun r => r = true) (fun k => firkinref01_Ints.f k l l) := by
  unfold firkinref01_Ints.f
  refine TotP.ite (fun _ => ?_) (fun h => absurd (by trivial) h)
  have key : ∀ (n i : Nat), i + n = l.length → TotP (fun r => r = true) (fun k => firkinref01_Ints.l0 k l l (i : Int)) := by
    intro n
    induction n with
    | zero =>
      intro i hi
      refine TotP.succ (fun k => by simp only [firkinref01_Ints.l0]; rfl) ?_
      exact TotP.ite (fun h => absurd h (by omega)) (fun _ => TotP.some_ rfl)
    | succ n ih =>
      intro i hi
      refine TotP.succ (fun k => by simp only [firkinref01_Ints.l0]; rfl) ?_
      refine TotP.ite (fun _ => ?_) (fun h => absurd (by omega) h)
      refine TotP.ite (fun _ => ?_) (fun h => absurd (by omega) h)
      refine TotP.ite (fun _ => ?_) (fun h => absurd (by omega) h)
      refine TotP.ite (fun _ => ?_) (fun h => absurd (by trivial) h)
      rw [wrap_in (by omega) (by omega), show (i : Int) + 1 = ((i + 1 : Nat) : Int) by omega]
      exact ih (i + 1) (by omega)
  simpa using key l.length 0 (by omega)
theorem live20_tot : TotP (fun r => r = true) (fun k => firkinlaw20_live.f k) := by
  refine ⟨true, ⟨60, fun k hk => ?_⟩, rfl⟩
  obtain ⟨n, rfl⟩ : ∃ n, k = 60 + n := ⟨k - 60, by omega⟩
  clear hk
  induction n with
  | zero => exact live20
  | succ n ih => exact firkinlaw20_live.mono (60 + n) true ih
theorem small13' (l0 : List S64) (l1 : List (List S24)) (hl0 : l0.length ≤ 9223372036854775807) (hl1 : l1.length ≤ 9223372036854775807) :
    TotP (fun r => r = true → (l0.length ≤ 20 ∧ ∀ y, y ∈ l0 → y.f0.size ≤ 100) ∧ l1.length ≤ 210) (fun k => firkinlaw13_Small.f k l0 l1) := by
  unfold firkinlaw13_Small.f
  have last : TotP (fun r => r = true → (l0.length ≤ 20 ∧ ∀ y, y ∈ l0 → y.f0.size ≤ 100) ∧ l1.length ≤ 210) (fun k => (firkinlaw12_Small.f k l0).bind fun t => if t = true then some (decide ((l1.length : Int) ≤ 210)) else some false) := by
    refine TotP.bind (small12 l0 hl0) (fun t ht => ?_)
    refine TotP.ite (fun h => TotP.some_ (fun h2 => ⟨ht h, ?_⟩)) (fun _ => TotP.some_ (fun h => by cases h))
    have := of_decide_eq_true h2
    omega
  have key : ∀ (n i : Nat), i + n = l1.length → TotP (fun r => r = true → (l0.length ≤ 20 ∧ ∀ y, y ∈ l0 → y.f0.size ≤ 100) ∧ l1.length ≤ 210) (fun k => firkinlaw13_Small.l0 k l0 l1 (i : Int)) := by
    intro n
    induction n with
    | zero =>
      intro i hi
      refine TotP.succ (fun k => by simp only [firkinlaw13_Small.l0]; rfl) ?_
      refine TotP.ite (fun h => absurd h (by omega)) (fun _ => ?_)
      refine TotP.succ (fun k => by simp only [firkinlaw13_Small.j1]; rfl) ?_
      exact TotP.ite (fun h => by cases h) (fun _ => last)
    | succ n ih =>
      intro i hi
      refine TotP.succ (fun k => by simp only [firkinlaw13_Small.l0]; rfl) ?_
      refine TotP.ite (fun _ => ?_) (fun h => absurd (by omega) h)
      refine TotP.succ (fun k => by simp only [firkinlaw13_Small.j1]; rfl) ?_
      refine TotP.ite (fun _ => ?_) (fun _ => last)
      refine TotP.ite (fun _ => ?_) (fun h => absurd (by omega) h)
      refine TotP.ite (fun _ => ?_) (fun h => absurd (by omega) h)
      refine TotP.ite (fun _ => TotP.some_ (fun h => by cases h)) (fun hle => ?_)
      refine TotP.bind (small10 _ (by omega)) (fun t _ => ?_)
      refine TotP.ite (fun _ => ?_) (fun _ => TotP.some_ (fun h => by cases h))
      rw [wrap_in (by omega) (by omega), show (i : Int) + 1 = ((i + 1 : Nat) : Int) by omega]
      exact ih (i + 1) (by omega)
  simpa using key l1.length 0 (by omega)
theorem rows_true (l : List S64) (l2 : List (List S24)) (x : S27) (hll : l.length ≤ 9223372036854775807) (h2l : l2.length ≤ 9223372036854775807) :
    TotP (fun r => r = true) (fun k => firkinlaw20_EvalRows.f k l x.f0 x.f1 x.f2 x.f3.f0 x.f3.f1 x.f3.f2 x.f4 x.f5 x.f6 l2) := by
  have L : TotP (fun r => r = true) (fun k => (firkinlaw20_live.f k).bind fun t => some t) := TotP.bind live20_tot (fun r hr => TotP.some_ hr)
  have out : ∀ b : Bool, b = true → TotP (fun r => r = true) (fun k => firkinlaw20_EvalRows.j0 k l l2 b x.f0 x.f1 x.f2 x.f3.f0 x.f3.f1 x.f3.f2 x.f4 x.f5 x.f6) := by
    intro b hb
    refine TotP.succ (fun k => by simp only [firkinlaw20_EvalRows.j0]; rfl) ?_
    exact TotP.ite (fun _ => L) (fun h => absurd hb h)
  unfold firkinlaw20_EvalRows.f
  refine TotP.bind (small13' l l2 hll h2l) (fun t ht => ?_)
  refine TotP.ite (fun htt => ?_) (fun _ => out true rfl)
  obtain ⟨⟨hl, hs⟩, h2⟩ := ht htt
  refine TotP.bind (smallF 9 x (by omega)) (fun u hu => ?_)
  cases u with
  | false => exact out _ rfl
  | true =>
    have hF := Fine.le 6 9 x (by omega) (hu rfl)
    have hL := Fine.lens 6 x hF
    have hs' : ∀ y, y ∈ l → y.f0.size ≤ 9223372036854775806 := fun y hy => by have := hs y hy; omega
    refine TotP.succ (fun k => by simp only [firkinlaw20_EvalRows.j0]; rfl) ?_
    refine TotP.ite (fun h => by cases h) (fun _ => ?_)
    refine TotP.bind (evRows l x l2 (by omega) h2 hL) (fun a ha => ?_)
    refine TotP.bind (refRows l x l2 (by omega) hs' h2 hF) (fun b hb => ?_)
    rw [← hb] at ha
    subst ha
    simp only [firkinlaw20_num.f, Option.bind_some]
    refine TotP.ite (fun _ => ?_) (fun h => absurd (by trivial) h)
    have hlen : a.1.length ≤ 210 := by
      rw [hb]
      unfold ansR
      split
      · have := rowsA_len (ansE l x) l2 0 []
        simp only [List.length_nil] at this
        omega
      · simp
    refine TotP.bind (ints_same a.1 (by omega)) (fun s hs => ?_)
    subst hs
    refine TotP.succ (fun k => by simp only [firkinlaw20_EvalRows.j1]; rfl) ?_
    refine TotP.ite (fun h => by cases h) (fun _ => ?_)
    have key : ∀ (n i : Nat), i + n = l2.length → TotP (fun r => r = true) (fun k => firkinlaw20_EvalRows.l0 k l l2 (i : Int) x.f0 x.f1 x.f2 x.f3.f0 x.f3.f1 x.f3.f2 x.f4 x.f5 x.f6) := by
      intro n
      induction n with
      | zero =>
        intro i hi
        refine TotP.succ (fun k => by simp only [firkinlaw20_EvalRows.l0]; rfl) ?_
        exact TotP.ite (fun h => absurd h (by omega)) (fun _ => L)
      | succ n ih =>
        intro i hi
        refine TotP.succ (fun k => by simp only [firkinlaw20_EvalRows.l0]; rfl) ?_
        refine TotP.ite (fun _ => ?_) (fun h => absurd (by omega) h)
        refine TotP.ite (fun _ => ?_) (fun h => absurd (by omega) h)
        refine TotP.bind (evRow l x _ (by omega) hL) (fun a ha => ?_)
        refine TotP.bind (refRow l x _ (by omega) hs' hF) (fun b hb => ?_)
        rw [← hb] at ha
        subst ha
        refine TotP.ite (fun _ => ?_) (fun h => absurd (by trivial) h)
        simp only [firkinlaw20_num.f, Option.bind_some]
        refine TotP.ite (fun _ => ?_) (fun h => absurd (by trivial) h)
        rw [wrap_in (by omega) (by omega), show (i : Int) + 1 = ((i + 1 : Nat) : Int) by omega]
        exact ih (i + 1) (by omega)
    simpa using key l2.length 0 (by omega)
end Go.Proofs.Ytdedmhmomoejkaa.X
namespace Go.Proofs.Ytdedmhmomoejkaa.X
open Go.RowKit Go.ChangeShapes Go.WideShapes Go.ChangeAt Go.Proofs.YtdedmhmomoejkaaW.PrintWords
set_option linter.unusedVariables false
theorem prog_own : ownKnob Try.prog.godebug = none := by kernel_rfl
theorem prog_laid : laidOutB Try.prog = true := by kernel_rfl
theorem slice_open {w : World} {α : Type} {d : Kd α} {e : Nat} {l : List α} {cs : List Value} (h : (Kd.slice e d).K w l cs) : ∃ A c, cs = [.slice A l.length c] ∧ l.length ≤ c ∧ d.C w A l.length l := h
set_option maxRecDepth 100000 in
theorem evalRows_lifted (os : Os) (started : os.Started) (H : Type) (enc : TypeId × Value → H) :
    ReturnsInHanded {} Try.checked os 8 .any (Rows.evalRowsSpec.pre6 enc Try.prog Try.f8 Rows.evalRowsRow.domain false) (Rows.evalRowsSpec.post enc Try.prog Try.f8 false true false false) := by
  refine returnsInHanded_of_change_sized (C := Try.checked) prog_own started (by kernel_rfl) Try.func8
    (ChangeSpec.witness6 (enc := enc) (C := Try.checked) false ⟨#[], #[.slice none 0 0, .agg #[.int .i64 0, .string ByteArray.empty, .int .i64 0, .bool false, .int .i64 0, .string ByteArray.empty, .int .i64 0, .string ByteArray.empty, .slice none 0 0], .slice none 0 0], []⟩ 8 (by kernel_rfl) (by kernel_rfl) (by kernel_rfl) (by kernel_rfl)) ?_
  intro W base args ds gs before hval0 hW hcnd hsz0 _
  have hval : ∀ (j : Nat) t v, Try.f8.params[j]? = some t → args[j]? = some v → Value.okWide Try.prog W .any base t v := hval0
  have hW' := hW
  obtain ⟨p, q, hA0, hV, rfl, hfz, hnd⟩ := hW
  have hA : DataW.TrodAll enc Try.prog W 0 (fun _ => true) true Try.f8.params.toList args.toList ds p := hA0
  rw [Try.params8] at hA hval
  obtain ⟨v0, vs0, d0, ds0, p0, q0, hargs, rfl, rfl, h0, r0⟩ := trodAll_cons hA
  obtain ⟨v1, vs1, d1, ds1, p1, q1, rfl, rfl, rfl, h1, r1⟩ := trodAll_cons r0
  obtain ⟨v2, vs2, d2, ds2, p2, q2, rfl, rfl, rfl, h2, r2⟩ := trodAll_cons r1
  obtain ⟨rfl, rfl, rfl⟩ := trodAll_nil r2
  obtain rfl : args = #[v0, v1, v2] := by cases args; simp_all
  obtain ⟨rfl, rfl⟩ := trodVars_none hV
  obtain ⟨a0, len0, cap0, rfl⟩ := okWide_slice Try.underlying22 (hval 0 22 v0 rfl rfl)
  obtain ⟨cs1, rfl, _⟩ := okWide_struct Try.underlying27 (hval 1 27 v1 rfl rfl)
  obtain ⟨a2, len2, cap2, rfl⟩ := okWide_slice Try.underlying44 (hval 2 44 v2 rfl rfl)
  have lt0 : ∀ x ∈ p0, x.block < W.heap.size := by obtain ⟨m, hm⟩ := h0; exact DataW.trod_lt m _ _ _ hm
  have lt1 : ∀ x ∈ p1, x.block < W.heap.size := by obtain ⟨m, hm⟩ := h1; exact DataW.trod_lt m _ _ _ hm
  have lt2 : ∀ x ∈ p2, x.block < W.heap.size := by obtain ⟨m, hm⟩ := h2; exact DataW.trod_lt m _ _ _ hm
  obtain ⟨l0, A0, c0, e0, hc0, hr0⟩ : ∃ (l0 : List S64) (A0 : Option Addr) (c0 : Nat), Value.slice a0 len0 cap0 = .slice A0 l0.length c0 ∧ l0.length ≤ c0 ∧ Kd.C k64 W A0 l0.length l0 := by
    obtain ⟨m, hm⟩ := h0
    obtain ⟨l, hl, _⟩ := (opens_slice Try.underlying22 (by kernel_rfl) (opens64 m)).go H enc W 0 _ true m _ _ (by omega) hm
    obtain ⟨A, c, hcs, hle, hC⟩ := slice_open hl
    exact ⟨l, A, c, by simpa [Value.cells] using hcs, hle, hC⟩
  obtain ⟨l2, A2, c2, e2, hc2, hr2⟩ : ∃ (l2 : List (List S24)) (A2 : Option Addr) (c2 : Nat), Value.slice a2 len2 cap2 = .slice A2 l2.length c2 ∧ l2.length ≤ c2 ∧ Kd.C (Kd.slice 24 k24) W A2 l2.length l2 := by
    obtain ⟨m, hm⟩ := h2
    obtain ⟨l, hl, _⟩ := (opens_slice Try.underlying44 (by kernel_rfl) (opens_slice Try.underlying50 (by kernel_rfl) (opens24 m))).go H enc W 0 _ true m _ _ (by omega) hm
    obtain ⟨A, c, hcs, hle, hC⟩ := slice_open hl
    exact ⟨l, A, c, by simpa [Value.cells] using hcs, hle, hC⟩
  obtain ⟨x, A8, c8, e1, hc8, hr8⟩ : ∃ (x : S27) (A8 : Option Addr) (c8 : Nat), Value.agg cs1 = .agg #[.int .i64 x.f0, .string x.f1, .int .i64 x.f2, .bool x.f3.f0, .int .i64 x.f3.f1, .string x.f3.f2, .int .i64 x.f4, .string x.f5, .slice A8 x.f6.length c8] ∧ x.f6.length ≤ c8 ∧ Kd.C k27 W A8 x.f6.length x.f6 := by
    obtain ⟨m, hm⟩ := h1
    obtain ⟨x, hx, _⟩ := (opens27 m).go H enc W 0 _ true m _ _ (by omega) hm
    obtain ⟨A, c, hcs, hle, hC⟩ := k27_open hx
    refine ⟨x, A, c, ?_, hle, hC⟩
    have : cs1.toList = _ := hcs
    cases cs1
    simp_all
  rw [e0] at h0
  rw [e1] at h1
  rw [e2] at h2
  rw [e0, e1, e2]
  clear hA0 hval0 hsz0
  obtain ⟨r, ⟨k, hk⟩, hr⟩ := rows_true l0 l2 x (Kd.C_max hr0) (Kd.C_max hr2)
  subst hr
  refine (firkinlaw20_EvalRows.calls k A0 c0 l0 x.f0 x.f1 x.f2 x.f3.f0 x.f3.f1 x.f3.f2 x.f4 x.f5 A8 c8 x.f6 A2 c2 l2 true W hr0 hc0 hr8 hc8 hr2 hc2 (hk k (Nat.le_refl _))).mono fun e W' ⟨he, bel⟩ => ?_
  subst he
  have hb0 := Below.trod prog_laid (by kernel_rfl) (of_decide_eq_true (by kernel_rfl)) h0 bel lt0
  have hb1 := Below.trod prog_laid (by kernel_rfl) (of_decide_eq_true (by kernel_rfl)) h1 bel lt1
  have hb2 := Below.trod prog_laid (by kernel_rfl) (of_decide_eq_true (by kernel_rfl)) h2 bel lt2
  rw [e0, e1, e2] at hW'
  exact ⟨_, rfl, _, _, _, [], _, [], hW', trodAll_mk1 (shut_bool Try.underlying4 _), (trodAll_cons_mk hb0 (trodAll_cons_mk hb1 (trodAll_cons_mk hb2 trodAll_mk0))), rfl, bel.frame _, fun h => by cases h⟩
theorem evalRows_holds : Rows.EvalRowsSaid :=
  OpenClaim.holds_of_wide 8 Try.f8 rfl rfl rfl rfl rfl rfl rfl ⟨rfl, rfl, rfl, rfl, rfl⟩ rfl rfl rfl rfl rfl (by kernel_rfl) Try.func8 (by kernel_rfl)
    (of_decide_eq_true (by kernel_rfl)) (by unfold Func.isWrapper; first | (rw [if_pos (by decide +kernel)]; kernel_rfl) | (rw [if_neg (by decide +kernel)]; exact ⟨rfl, rfl⟩))
    (fun os started H enc _ => evalRows_lifted os started H enc)
end Go.Proofs.Ytdedmhmomoejkaa.X
