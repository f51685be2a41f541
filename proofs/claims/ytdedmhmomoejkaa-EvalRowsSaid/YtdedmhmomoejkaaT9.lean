/- Words and walks for evalRows_holds, part 9 of the texts that a program of this session laid together. -/
import Derived.Test.YtdedmhmomoejkaaT2
import Derived.Test.YtdedmhmomoejkaaT3
import Derived.Test.YtdedmhmomoejkaaT4
import Derived.Test.YtdedmhmomoejkaaT5
import Derived.Test.YtdedmhmomoejkaaT7
import Derived.Test.YtdedmhmomoejkaaT8
import Derived.StillTailTactics
namespace Go.Proofs.Ytdedmhmomoejkaa.X
open Go.RowKit Go.Proofs.YtdedmhmomoejkaaW.PrintWords Go.Proofs.YtdedmhmomoejkaaW.PrintLast
set_option linter.unusedVariables false
set_option linter.unusedSimpArgs false
theorem small12 (l : List S64) (hl : l.length ≤ 9223372036854775807) : TotP (fun r => r = true → l.length ≤ 20 ∧ ∀ y, y ∈ l → y.f0.size ≤ 100) (fun k => firkinlaw12_Small.f k l) := by
  unfold firkinlaw12_Small.f
  have key : ∀ (n i : Nat), i + n = l.length → (∀ y, y ∈ l.take i → y.f0.size ≤ 100) → TotP (fun r => r = true → l.length ≤ 20 ∧ ∀ y, y ∈ l → y.f0.size ≤ 100) (fun k => firkinlaw12_Small.l0 k l (i : Int)) := by
    intro n
    induction n with
    | zero =>
      intro i hi hall
      refine TotP.succ (fun k => by simp only [firkinlaw12_Small.l0]; rfl) ?_
      refine TotP.ite (fun h => absurd h (by omega)) (fun _ => ?_)
      refine TotP.succ (fun k => by simp only [firkinlaw12_Small.j1]; rfl) ?_
      refine TotP.ite (fun h => absurd h (by decide)) (fun _ => TotP.some_ (fun h => ⟨by have := of_decide_eq_true h; omega, fun y hy => hall y (by rw [List.take_of_length_le (by omega)]; exact hy)⟩))
    | succ n ih =>
      intro i hi hall
      have hlt : i < l.length := by omega
      refine TotP.succ (fun k => by simp only [firkinlaw12_Small.l0]; rfl) ?_
      refine TotP.ite (fun _ => ?_) (fun h => absurd (by omega) h)
      refine TotP.succ (fun k => by simp only [firkinlaw12_Small.j1]; rfl) ?_
      refine TotP.ite (fun _ => ?_) (fun h0 => TotP.some_ (fun h => by have h1 := of_decide_eq_true h; exact absurd (decide_eq_true (show (i : Int) < 30 by omega)) h0))
      refine TotP.ite (fun _ => ?_) (fun h => absurd (by omega) h)
      refine TotP.ite (fun _ => ?_) (fun h => absurd (by omega) h)
      rw [rd64_get l i hlt]
      refine TotP.ite (fun _ => TotP.some_ (by simp)) (fun g => ?_)
      rw [wrap_in (by omega) (by omega), show (i : Int) + 1 = ((i + 1 : Nat) : Int) by omega]
      refine ih (i + 1) (by omega) (fun y hy => ?_)
      rw [List.take_succ_eq_append_getElem hlt] at hy
      rcases List.mem_append.1 hy with hy | hy
      · exact hall y hy
      · rw [List.mem_singleton.1 hy]; omega
  simpa using key l.length 0 (by omega) (by simp)
end Go.Proofs.Ytdedmhmomoejkaa.X
namespace Go.Proofs.Ytdedmhmomoejkaa.X
open Go.RowKit Go.Proofs.YtdedmhmomoejkaaW.PrintWords Go.Proofs.YtdedmhmomoejkaaW.PrintLast Go.Proofs.YtdedmhmomoejkaaW.PrintMore
attribute [local go_sem] max2_int max_two
set_option linter.unusedVariables false
set_option linter.unusedSimpArgs false
def firkinref09_Order.j0 : Nat → Bool → Bool → Int → ByteArray → Bool → Int → ByteArray → Option (Int)
 | 0, _, _, _, _, _, _, _ => none
 | k + 1, x30, x299000, x299001, x299002, x300000, x300001, x300002 => if x30 = true then (some (-1)) else (if x299001 > x300001 then (some 1) else (if (Op.bytesLess x299002.toList x300002.toList) = true then (some 0) else (if x299002.toList = x300002.toList then (some 0) else (some 1))))
def firkinref09_Order.f (k : Nat) (a0_0 : Bool) (a0_1 : Int) (a0_2 : ByteArray) (a1_0 : Bool) (a1_1 : Int) (a1_2 : ByteArray) : Option (Int) := if (a0_0 != a1_0) = true then (if a0_0 = true then (some (-1)) else (some 1)) else (if a0_1 < a1_1 then (firkinref09_Order.j0 k true a0_0 a0_1 a0_2 a1_0 a1_1 a1_2) else (if a0_1 = a1_1 then (firkinref09_Order.j0 k (Op.bytesLess a0_2.toList a1_2.toList) a0_0 a0_1 a0_2 a1_0 a1_1 a1_2) else (firkinref09_Order.j0 k false a0_0 a0_1 a0_2 a1_0 a1_1 a1_2)))
theorem firkinref09_Order.mono_l : ∀ k, (∀ y0 y1 y2 y3 y4 y5 y6, LeO (firkinref09_Order.j0 k y0 y1 y2 y3 y4 y5 y6) (firkinref09_Order.j0 (k + 1) y0 y1 y2 y3 y4 y5 y6))
 | 0 => fun _ _ _ _ _ _ _ r h => by simp [firkinref09_Order.j0] at h
 | k + 1 => by
  have ih0 := firkinref09_Order.mono_l k
  ·intro y0 y1 y2 y3 y4 y5 y6
   unfold firkinref09_Order.j0
   repeat' first
   | (with_reducible exact ih0 _ _ _ _ _ _ _)
   | (with_reducible exact LeO.refl _)
   | (with_reducible exact LeO.none _)
   | (with_reducible refine LeO.ite ?_ ?_)
   | (with_reducible refine LeO.bind ?_ (fun _ => ?_))
   | exact ih0 _ _ _ _ _ _ _
   | exact LeO.none _
   | refine LeO.ite ?_ ?_
   | refine LeO.bind ?_ (fun _ => ?_)
theorem firkinref09_Order.mono : ∀ a0 a1 a2 a3 a4 a5 k, LeO (firkinref09_Order.f k a0 a1 a2 a3 a4 a5) (firkinref09_Order.f (k + 1) a0 a1 a2 a3 a4 a5) := by
 intro a0 a1 a2 a3 a4 a5 k
 have ih0 := firkinref09_Order.mono_l k
 unfold firkinref09_Order.f
 repeat' first
   | (with_reducible exact ih0 _ _ _ _ _ _ _)
   | (with_reducible exact LeO.refl _)
   | (with_reducible exact LeO.none _)
   | (with_reducible refine LeO.ite ?_ ?_)
   | (with_reducible refine LeO.bind ?_ (fun _ => ?_))
   | exact ih0 _ _ _ _ _ _ _
   | exact LeO.none _
   | refine LeO.ite ?_ ?_
   | refine LeO.bind ?_ (fun _ => ?_)
set_option maxHeartbeats 8000000 in
set_option maxRecDepth 100000 in
theorem firkinref09_Order.calls (k : Nat) (a0_0 : Bool) (a0_1 : Int) (a0_2 : ByteArray) (a1_0 : Bool) (a1_1 : Int) (a1_2 : ByteArray) (r : Int) (w : World) (h : firkinref09_Order.f k a0_0 a0_1 a0_2 a1_0 a1_1 a1_2 = some r) :
  Calls Try.prog 35 #[.agg #[.bool a0_0, .int .i64 a0_1, .string a0_2], .agg #[.bool a1_0, .int .i64 a1_1, .string a1_2]] w fun e w' => e = .returned (.int .i64 r) ∧ Below w.heap.size w w' := by
 have hu24 := Try.underlying24
 have HB := Aside0.mk (Below.refl w.heap.size w)
 have H : (if (a0_0 != a1_0) = true then (if a0_0 = true then (some (-1)) else (some 1)) else (if a0_1 < a1_1 then (firkinref09_Order.j0 k true a0_0 a0_1 a0_2 a1_0 a1_1 a1_2) else (if a0_1 = a1_1 then (firkinref09_Order.j0 k (Op.bytesLess a0_2.toList a1_2.toList) a0_0 a0_1 a0_2 a1_0 a1_1 a1_2) else (firkinref09_Order.j0 k false a0_0 a0_1 a0_2 a1_0 a1_1 a1_2)))) = some r := h
 clear h
 by_cases c3 : (a0_0 != a1_0) = true
 ·rw [if_pos c3] at H
  have c3b0 : (a0_0 != a1_0) = true := c3
  (try (have c3b1 : decide (a0_0 = a1_0) = false := by simpa using c3))
  (try (have c3b2 : (a0_0 == a1_0) = false := by simpa using c3))
  (try (have c3b3 : ¬ (a0_0 = a1_0) := by simpa using c3))
  clear c3
  by_cases c4 : a0_0 = true
  ·subst c4
   have H1 : (some (-1)) = some r := by rw [if_pos rfl] at H; exact H
   clear H
   have H := H1
   clear H1
   obtain rfl := Option.some.inj H
   go_enter Try.func35, Try.ntmps35
   go_wp2_with (first | (refine bx_ (N := 2) (cs := #[.bool true, .int .i64 a0_1, .string a0_2]) (t := 24) ?_; intro gb298 hg w5 hbox hb; have BK298 := Aside0.mk (hbox); have GW298 := ge_ HB hg; have GE298 := ge_ HB hg; replace HB := bs_ HB hb; clear hb hbox hg) | (refine bx_ (N := 3) (cs := #[.bool a1_0, .int .i64 a1_1, .string a1_2]) (t := 24) ?_; intro gb299 hg w6 hbox hb; have BK299 := Aside0.mk (hbox); have GW299 := ge_ HB hg; have GE299 := ge_ HB hg; have NB298_299 := lt_ BK298 hg; have NB299_298 := gt_ BK298 hg; replace BK298 := bk_ BK298 hb; replace HB := bs_ HB hb; clear hb hbox hg; have hnb7 := NB298_299.out; have hnc7 := NB299_298.out; obtain ⟨C8_0, C8_1, C8_2⟩ := zc3_ BK298.out; obtain ⟨F8_0, F8_1, F8_2⟩ := zf3_ BK298.out; obtain ⟨C9_0, C9_1, C9_2⟩ := zc3_ BK299.out; obtain ⟨F9_0, F9_1, F9_2⟩ := zf3_ BK299.out))
   go_ret
   exact en_ HB
  ·replace c4 := Bool.eq_false_iff.mpr c4
   subst c4
   have H1 : (some 1) = some r := by rw [if_neg (show ¬ (false = true) by decide)] at H; exact H
   clear H
   have H := H1
   clear H1
   obtain rfl := Option.some.inj H
   go_enter Try.func35, Try.ntmps35
   go_wp2_with (first | (refine bx_ (N := 2) (cs := #[.bool false, .int .i64 a0_1, .string a0_2]) (t := 24) ?_; intro gb298 hg w10 hbox hb; have BK298 := Aside0.mk (hbox); have GW298 := ge_ HB hg; have GE298 := ge_ HB hg; replace HB := bs_ HB hb; clear hb hbox hg) | (refine bx_ (N := 3) (cs := #[.bool a1_0, .int .i64 a1_1, .string a1_2]) (t := 24) ?_; intro gb299 hg w11 hbox hb; have BK299 := Aside0.mk (hbox); have GW299 := ge_ HB hg; have GE299 := ge_ HB hg; have NB298_299 := lt_ BK298 hg; have NB299_298 := gt_ BK298 hg; replace BK298 := bk_ BK298 hb; replace HB := bs_ HB hb; clear hb hbox hg; have hnb12 := NB298_299.out; have hnc12 := NB299_298.out; obtain ⟨C13_0, C13_1, C13_2⟩ := zc3_ BK298.out; obtain ⟨F13_0, F13_1, F13_2⟩ := zf3_ BK298.out; obtain ⟨C14_0, C14_1, C14_2⟩ := zc3_ BK299.out; obtain ⟨F14_0, F14_1, F14_2⟩ := zf3_ BK299.out))
   go_ret
   exact en_ HB
 ·rw [if_neg c3] at H
  have c3b0 : (a0_0 != a1_0) = false := by simpa using c3
  (try (have c3b1 : decide (a0_0 = a1_0) = true := by simpa using c3))
  (try (have c3b2 : (a0_0 == a1_0) = true := by simpa using c3))
  clear c3
  have HC15 := Aside0.mk H
  clear H
  go_enter Try.func35, Try.ntmps35
  go_upto_region 5 with (first | (refine bx_ (N := 2) (cs := #[.bool a0_0, .int .i64 a0_1, .string a0_2]) (t := 24) ?_; intro gb298 hg w16 hbox hb; have BK298 := Aside0.mk (hbox); have GW298 := ge_ HB hg; have GE298 := ge_ HB hg; replace HB := bs_ HB hb; clear hb hbox hg) | (refine bx_ (N := 3) (cs := #[.bool a1_0, .int .i64 a1_1, .string a1_2]) (t := 24) ?_; intro gb299 hg w17 hbox hb; have BK299 := Aside0.mk (hbox); have GW299 := ge_ HB hg; have GE299 := ge_ HB hg; have NB298_299 := lt_ BK298 hg; have NB299_298 := gt_ BK298 hg; replace BK298 := bk_ BK298 hb; replace HB := bs_ HB hb; clear hb hbox hg; have hnb18 := NB298_299.out; have hnc18 := NB299_298.out; obtain ⟨C19_0, C19_1, C19_2⟩ := zc3_ BK298.out; obtain ⟨F19_0, F19_1, F19_2⟩ := zf3_ BK298.out; obtain ⟨C20_0, C20_1, C20_2⟩ := zc3_ BK299.out; obtain ⟨F20_0, F20_1, F20_2⟩ := zf3_ BK299.out))
  (try simp only [Act.put, List.setIfInBounds_toArray, List.set_cons_zero, List.set_cons_succ])
  go_cut [30] (fun v30 wc => ∃ (kq : Nat) (x30_14 : Bool), v30 = .bool x30_14 ∧ Aside0 (firkinref09_Order.j0 kq x30_14 a0_0 a0_1 a0_2 a1_0 a1_1 a1_2 = some r) ∧ Aside0 (kq ≤ k) ∧ Aside0 (wc.heap[gb298]? = some (.cells #[.bool a0_0, .int .i64 a0_1, .string a0_2] 24 (0, 0))) ∧ Aside0 (wc.heap[gb299]? = some (.cells #[.bool a1_0, .int .i64 a1_1, .string a1_2] 24 (0, 0))) ∧ Aside0 (Below w.heap.size w wc))
  case first =>
   have H := HC15.out
   clear HC15
   by_cases c21 : a0_1 < a1_1
   rotate_left
   focus
    rw [if_neg c21] at H
    have c21b0 : decide (a0_1 < a1_1) = false := decide_eq_false c21
    clear c21
    (first | rw [c21b0] | (simp only [i64_w, i32_w]; rw [c21b0]) | skip)
    by_cases c25 : a0_1 = a1_1
    rotate_left
    focus
     rw [if_neg c25] at H
     have c25b0 : (a0_1 == a1_1) = false := beq_eq_false_iff_ne.mpr c25
     have c25b1 : (a0_1 != a1_1) = true := bne_iff_ne.mpr c25
    rotate_right
    focus
     rw [if_pos c25] at H
     have c25b0 : (a0_1 == a1_1) = true := beq_iff_eq.mpr c25
     have c25b1 : (a0_1 != a1_1) = false := bne_eq_false_iff_eq.mpr c25
     clear c25
   rotate_right
   focus
    rw [if_pos c21] at H
    have c21b0 : decide (a0_1 < a1_1) = true := decide_eq_true c21
    clear c21
    (first | rw [c21b0] | (simp only [i64_w, i32_w]; rw [c21b0]) | skip)
   all_goals
    have H' := Aside0.mk H
    clear H
    have hnb22 := NB298_299.out
    have hnc22 := NB299_298.out
    obtain ⟨C23_0, C23_1, C23_2⟩ := cz3_ BK298.out
    obtain ⟨F23_0, F23_1, F23_2⟩ := fz3_ BK298.out
    obtain ⟨C24_0, C24_1, C24_2⟩ := cz3_ BK299.out
    obtain ⟨F24_0, F24_1, F24_2⟩ := fz3_ BK299.out
    go_wp2
    go_meet
    case rel => exact ⟨_, _, (by first | rfl | (simp; done) | (simp [*]; done)), H', ⟨by first | omega | exact Nat.le_refl _⟩, ⟨by (with_reducible repeat (first | refine blk_drewN ?_ _ | refine blk_drew ?_ | refine blk_alloc ?_ _)); exact BK298.out⟩, ⟨by (with_reducible repeat (first | refine blk_drewN ?_ _ | refine blk_drew ?_ | refine blk_alloc ?_ _)); exact BK299.out⟩, ⟨by repeat (first | (with_reducible first | exact HB.out | apply below_alloc | apply pw_below_drewN | apply below_drew1 | refine below_set ?_ GE298.out | refine below_set ?_ GE299.out) | exact HB.out)⟩⟩
  case rest =>
   clear HC15
   try clear c1
   try clear c2
   try clear p2
   try clear c3
   try clear c3b0
   try clear c3b1
   try clear c3b2
   try clear c4
   try clear c7
   try clear c12
   try clear c18
   try clear c21
   try clear c21b0
   try clear c22
   try clear c25
   try clear c25b0
   try clear c25b1
   try clear c26
   try clear c29
   try clear C13_0 C13_1 C13_2
   try clear C14_0 C14_1 C14_2
   try clear C19_0 C19_1 C19_2
   try clear C20_0 C20_1 C20_2
   try clear C23_0 C23_1 C23_2
   try clear C24_0 C24_1 C24_2
   try clear C27_0 C27_1 C27_2
   try clear C28_0 C28_1 C28_2
   try clear C30_0 C30_1 C30_2
   try clear C31_0 C31_1 C31_2
   try clear C8_0 C8_1 C8_2
   try clear C9_0 C9_1 C9_2
   try clear F13_0 F13_1 F13_2
   try clear F14_0 F14_1 F14_2
   try clear F19_0 F19_1 F19_2
   try clear F20_0 F20_1 F20_2
   try clear F23_0 F23_1 F23_2
   try clear F24_0 F24_1 F24_2
   try clear F27_0 F27_1 F27_2
   try clear F28_0 F28_1 F28_2
   try clear F30_0 F30_1 F30_2
   try clear F31_0 F31_1 F31_2
   try clear F8_0 F8_1 F8_2
   try clear F9_0 F9_1 F9_2
   obtain ⟨kq, x30_14, rfl, HA, HJ14, BK298, BK299, HB⟩ := hcut
   cases kq with
   | zero => exact absurd HA.out (by simp [firkinref09_Order.j0])
   | succ kj14 =>
    have H := HA.out
    clear HA
    simp only [firkinref09_Order.j0] at H
    by_cases c32 : x30_14 = true
    ·subst c32
     have H1 : (some (-1)) = some r := by rw [if_pos rfl] at H; exact H
     clear H
     have H := H1
     clear H1
     obtain rfl := Option.some.inj H
     go_wp2
     go_ret
     exact en_ HB
    ·replace c32 := Bool.eq_false_iff.mpr c32
     subst c32
     have H1 : (if a0_1 > a1_1 then (some 1) else (if (Op.bytesLess a0_2.toList a1_2.toList) = true then (some 0) else (if a0_2.toList = a1_2.toList then (some 0) else (some 1)))) = some r := by rw [if_neg (show ¬ (false = true) by decide)] at H; exact H
     clear H
     have H := H1
     clear H1
     by_cases c33 : a0_1 > a1_1
     rotate_left
     focus
      rw [if_neg c33] at H
      have c33b0 : decide (a1_1 < a0_1) = false := decide_eq_false c33
      clear c33
      by_cases c37 : (Op.bytesLess a0_2.toList a1_2.toList) = true
      rotate_left
      focus
       rw [if_neg c37] at H
       have c37b0 : (Op.bytesLess a0_2.toList a1_2.toList) = false := by simpa using c37
       clear c37
       by_cases c41 : a0_2.toList = a1_2.toList
       rotate_left
       focus
        rw [if_neg c41] at H
        have c41b0 : (a0_2.toList == a1_2.toList) = false := beq_eq_false_iff_ne.mpr c41
        have c41b1 : (a0_2.toList != a1_2.toList) = true := bne_iff_ne.mpr c41
       rotate_right
       focus
        rw [if_pos c41] at H
        have c41b0 : (a0_2.toList == a1_2.toList) = true := beq_iff_eq.mpr c41
        have c41b1 : (a0_2.toList != a1_2.toList) = false := bne_eq_false_iff_eq.mpr c41
        clear c41
      rotate_right
      focus
       rw [if_pos c37] at H
       have c37b0 : (Op.bytesLess a0_2.toList a1_2.toList) = true := c37
       clear c37
     rotate_right
     focus
      rw [if_pos c33] at H
      have c33b0 : decide (a1_1 < a0_1) = true := decide_eq_true c33
      clear c33
     all_goals
      obtain rfl := Option.some.inj H
      have hnb34 := NB298_299.out
      have hnc34 := NB299_298.out
      obtain ⟨C35_0, C35_1, C35_2⟩ := cz3_ BK298.out
      obtain ⟨F35_0, F35_1, F35_2⟩ := fz3_ BK298.out
      obtain ⟨C36_0, C36_1, C36_2⟩ := cz3_ BK299.out
      obtain ⟨F36_0, F36_1, F36_2⟩ := fz3_ BK299.out
      go_wp2
      go_ret
      exact en_ HB
end Go.Proofs.Ytdedmhmomoejkaa.X
namespace Go.Proofs.Ytdedmhmomoejkaa.X
open Go.RowKit Go.Proofs.YtdedmhmomoejkaaW.PrintWords Go.Proofs.YtdedmhmomoejkaaW.PrintLast
set_option linter.unusedVariables false
set_option linter.unusedSimpArgs false
theorem ord09 (a0 : Bool) (a1 : Int) (a2 : ByteArray) (b0 : Bool) (b1 : Int) (b2 : ByteArray) : TotP (fun r => r = ord a0 a1 a2 b0 b1 b2) (fun k => firkinref09_Order.f k a0 a1 a2 b0 b1 b2) := by
  unfold firkinref09_Order.f
  have j0 : ∀ t, (t = true → ord a0 a1 a2 b0 b1 b2 = -1) → (t = false → ord a0 a1 a2 b0 b1 b2 = if a1 > b1 then 1 else if Op.bytesLess a2.toList b2.toList = true then 0 else if a2.toList = b2.toList then 0 else 1) →
      TotP (fun r => r = ord a0 a1 a2 b0 b1 b2) (fun k => firkinref09_Order.j0 k t a0 a1 a2 b0 b1 b2) := by
    intro t h1 h2
    refine TotP.succ (fun k => by simp only [firkinref09_Order.j0]; rfl) ?_
    refine TotP.ite (fun h => TotP.some_ (h1 h).symm) (fun h => ?_)
    rw [h2 (Bool.eq_false_iff.2 h)]
    refine TotP.ite (fun g => TotP.some_ (by rw [if_pos g])) (fun g => ?_)
    rw [if_neg g]
    refine TotP.ite (fun g => TotP.some_ (by rw [if_pos g])) (fun g => ?_)
    rw [if_neg g]
    exact TotP.ite (fun g => TotP.some_ (by rw [if_pos g])) (fun g => TotP.some_ (by rw [if_neg g]))
  refine TotP.ite (fun hne => ?_) (fun hne => ?_)
  · refine TotP.ite (fun h => TotP.some_ ?_) (fun h => TotP.some_ ?_)
    · cases a0 <;> cases b0 <;> simp_all [ord, flagI, cmpI]
    · cases a0 <;> cases b0 <;> simp_all [ord, flagI, cmpI]
  · have he : a0 = b0 := by cases a0 <;> cases b0 <;> simp_all
    subst he
    have hz : cmpI (flagI a0) (flagI a0) = 0 := by unfold cmpI; rw [if_neg (by omega), if_neg (by omega)]
    refine TotP.ite (fun h => j0 true (fun _ => ?_) (fun h' => by cases h')) (fun h => ?_)
    · have : cmpI a1 b1 = -1 := by unfold cmpI; rw [if_pos h]
      simp [ord, hz, this]
    refine TotP.ite (fun h2 => j0 _ (fun h' => ?_) (fun h' => ?_)) (fun h2 => j0 false (fun h' => by cases h') (fun _ => ?_))
    · have : cmpI a1 b1 = 0 := by unfold cmpI; rw [if_neg (by omega), if_neg (by omega)]
      simp [ord, hz, this, cmpT, h']
    · have : cmpI a1 b1 = 0 := by unfold cmpI; rw [if_neg (by omega), if_neg (by omega)]
      rw [if_neg (show ¬ a1 > b1 by omega)]
      by_cases g : a2.toList = b2.toList
      · rw [g] at h'
        simp [ord, hz, this, cmpT, h', g]
      · simp [ord, hz, this, cmpT, h', g]
    · have : cmpI a1 b1 = 1 := by unfold cmpI; rw [if_neg (by omega), if_pos (by omega)]
      rw [if_pos (show a1 > b1 by omega)]
      simp [ord, hz, this]
end Go.Proofs.Ytdedmhmomoejkaa.X
namespace Go.Proofs.Ytdedmhmomoejkaa.X
open Go.RowKit Go.Proofs.YtdedmhmomoejkaaW.PrintWords Go.Proofs.YtdedmhmomoejkaaW.PrintLast
set_option linter.unusedVariables false
set_option linter.unusedSimpArgs false
theorem val_in (x : S27) (hf : fieldsB x = true) (h2 : x.f0 = 2) : (1 ≤ x.f2 ∧ x.f2 ≤ 6) ∧ x.f3.f0 = false := by
  rw [fieldsB_eq, Bool.and_eq_true] at hf
  have h := hf.2
  unfold opB at h
  rw [if_neg (by omega), if_pos h2] at h
  simp only [Bool.and_eq_true, decide_eq_true_eq] at h
  refine ⟨⟨h.2.1, h.2.2.1⟩, ?_⟩
  have hm := h.2.2.2
  cases hb : x.f3.f0 with
  | false => rfl
  | true =>
    rw [hb] at hm
    simp [cell_May.f] at hm
theorem rd27_get (l : List S27) (i : Nat) (h : i < l.length) : rd_T27 l (i : Int) = l[i] := by
  simp only [rd_T27, Int.toNat_natCast, List.getD_eq_getElem?_getD, List.getElem?_eq_getElem h, Option.getD_some]
end Go.Proofs.Ytdedmhmomoejkaa.X
namespace Go.Proofs.Ytdedmhmomoejkaa.X
open Go.RowKit Go.Proofs.YtdedmhmomoejkaaW.PrintWords Go.Proofs.YtdedmhmomoejkaaW.PrintLast Go.Proofs.YtdedmhmomoejkaaW.PrintMore
attribute [local go_sem] max2_int max_two
set_option linter.unusedVariables false
set_option linter.unusedSimpArgs false
def schema_Row.l0 : Nat → List (S24) → List (S64) → Int → Int → Option (Bool)
 | 0, _, _, _, _ => none
 | k + 1, x1, x12, x13, x14 => if x14 < x13 then (if 0 ≤ x14 then (if x14 < (x12.length : Int) then (if x14 < (x1.length : Int) then ((cell_May.f ((rd_T64 x12 x14).f1) ((rd_T64 x12 x14).f2) ((rd_T24 x1 x14).f0) ((rd_T24 x1 x14).f1) ((rd_T24 x1 x14).f2)).bind fun t484 => (if t484 = true then (schema_Row.l0 k x1 x12 x13 (wrap64 (x14 + 1))) else (some false))) else (none)) else (none)) else (none)) else (some true)
def schema_Row.f (k : Nat) (l0 : List (S64)) (l1 : List (S24)) : Option (Bool) := if (l0.length : Int) = (l1.length : Int) then (schema_Row.l0 k l1 l0 (l0.length : Int) 0) else (some false)
theorem schema_Row.mono_l : ∀ k, (∀ y0 y1 y2 y3, LeO (schema_Row.l0 k y0 y1 y2 y3) (schema_Row.l0 (k + 1) y0 y1 y2 y3))
 | 0 => fun _ _ _ _ r h => by simp [schema_Row.l0] at h
 | k + 1 => by
  have ih0 := schema_Row.mono_l k
  ·intro y0 y1 y2 y3
   unfold schema_Row.l0
   repeat' first
   | (with_reducible exact ih0 _ _ _ _)
   | (with_reducible exact LeO.refl _)
   | (with_reducible exact LeO.none _)
   | (with_reducible refine LeO.ite ?_ ?_)
   | (with_reducible refine LeO.bind ?_ (fun _ => ?_))
   | exact ih0 _ _ _ _
   | exact LeO.none _
   | refine LeO.ite ?_ ?_
   | refine LeO.bind ?_ (fun _ => ?_)
theorem schema_Row.mono : ∀ a0 a1 k, LeO (schema_Row.f k a0 a1) (schema_Row.f (k + 1) a0 a1) := by
 intro a0 a1 k
 have ih0 := schema_Row.mono_l k
 unfold schema_Row.f
 repeat' first
   | (with_reducible exact ih0 _ _ _ _)
   | (with_reducible exact LeO.refl _)
   | (with_reducible exact LeO.none _)
   | (with_reducible refine LeO.ite ?_ ?_)
   | (with_reducible refine LeO.bind ?_ (fun _ => ?_))
   | exact ih0 _ _ _ _
   | exact LeO.none _
   | refine LeO.ite ?_ ?_
   | refine LeO.bind ?_ (fun _ => ?_)
def schema_Row.T6 : Bool × List (List Nat × List Nat) := (true, [([], []), ([0], [0]), ([], []), ([2], [2]), ([], []), ([], []), ([4, 5], [4, 5]), ([6], [6]), ([1, 3, 7], [1, 3, 7]), ([8], [8])])
def schema_Row.B6 : List Nat := [0, 1, 0, 4, 0, 0, 48, 112, 255, 511]
theorem schema_Row.tab6 : rtab .any (opsOf Try.f40 6) = schema_Row.T6 := by kernel_rfl
theorem schema_Row.bits6 : waitsOk schema_Row.T6.2 schema_Row.B6 = true := by kernel_rfl
set_option maxHeartbeats 8000000 in
set_option maxRecDepth 100000 in
theorem schema_Row.calls (k : Nat) (A0 : Option Addr) (c0 : Nat) (l0 : List (S64)) (A1 : Option Addr) (c1 : Nat) (l1 : List (S24)) (r : Bool) (w : World) (hr0 : Kd.C k64 w A0 l0.length l0) (hc0 : l0.length ≤ c0) (hr1 : Kd.C k24 w A1 l1.length l1) (hc1 : l1.length ≤ c1) (h : schema_Row.f k l0 l1 = some r) :
  Calls Try.prog 40 #[.slice A0 l0.length c0, .slice A1 l1.length c1] w fun e w' => e = .returned (.bool r) ∧ Below w.heap.size w w' := by
 have hu64 := Try.underlying64
 have hu24 := Try.underlying24
 have HR0 := Aside0.mk hr0
 have HC0 := Aside0.mk hc0
 clear hr0 hc0
 have HR1 := Aside0.mk hr1
 have HC1 := Aside0.mk hc1
 clear hr1 hc1
 have HB := Aside0.mk (Below.refl w.heap.size w)
 have H : (if (l0.length : Int) = (l1.length : Int) then (schema_Row.l0 k l1 l0 (l0.length : Int) 0) else (some false)) = some r := h
 clear h
 by_cases c3 : (l0.length : Int) = (l1.length : Int)
 ·rw [if_pos c3] at H
  have c3b0 : ((l0.length : Int) == (l1.length : Int)) = true := beq_iff_eq.mpr c3
  have c3b1 : ((l0.length : Int) != (l1.length : Int)) = false := bne_eq_false_iff_eq.mpr c3
  have c3b2 : (l0.length == l1.length) = true := by first | simpa using c3 | (simp at c3 ⊢; omega)
  clear c3
  have H' := Aside0.mk H
  clear H
  go_enter Try.func40, Try.ntmps40
  go_wp2
  go_loopg [14] k (fun kq v14 w' => ∃ (x14_1 : Int), v14 = .int .i64 x14_1 ∧ Aside0 (schema_Row.l0 kq l1 l0 (l0.length : Int) x14_1 = some r) ∧ Aside0 (kq ≤ k) ∧ Aside0 (Below w.heap.size w w'))
  case atStart => exact ⟨_, (by first | rfl | (simp; done) | (simp [*]; done)), H', ⟨Nat.le_refl _⟩, ⟨by repeat (first | (with_reducible first | exact HB.out | apply below_alloc | apply pw_below_drewN | apply below_drew1) | exact HB.out)⟩⟩
  case round =>
   clear H'
   try clear c1
   try clear p2
   try clear c3
   try clear c3b0
   try clear c3b1
   try clear c3b2
   obtain ⟨x14_1, rfl, HA, HK1, HB⟩ := hrel
   cases gk with
   | zero => exact absurd HA.out (by simp [schema_Row.l0])
   | succ k1 =>
    have H := HA.out
    clear HA
    simp only [schema_Row.l0] at H
    by_cases c4 : x14_1 < (l0.length : Int)
    ·rw [if_pos c4] at H
     have c4b0 : decide (x14_1 < (l0.length : Int)) = true := decide_eq_true c4
     clear c4
     by_cases c5 : 0 ≤ x14_1
     ·rw [if_pos c5] at H
      have c5b0 : decide (0 ≤ x14_1) = true := decide_eq_true c5
      clear c5
      by_cases c6 : x14_1 < (l0.length : Int)
      ·rw [if_pos c6] at H
       have c6b0 : decide (x14_1 < (l0.length : Int)) = true := decide_eq_true c6
       clear c6
       by_cases c7 : x14_1 < (l1.length : Int)
       ·rw [if_pos c7] at H
        have c7b0 : decide (x14_1 < (l1.length : Int)) = true := decide_eq_true c7
        clear c7
        replace H := Option.bind_eq_some_iff.mp H
        obtain ⟨t484, A80, H⟩ := H
        replace H : (if t484 = true then (schema_Row.l0 k1 l1 l0 (l0.length : Int) (wrap64 (x14_1 + 1))) else (some false)) = some r := H
        have A8 := Aside0.mk A80
        clear A80
        by_cases c9 : t484 = true
        ·subst c9
         have H1 : (schema_Row.l0 k1 l1 l0 (l0.length : Int) (wrap64 (x14_1 + 1))) = some r := by rw [if_pos rfl] at H; exact H
         clear H
         have H := H1
         clear H1
         have H' := Aside0.mk H
         clear H
         have p481 : 0 ≤ (x14_1 : Int) := dt_
         have q481 : x14_1 < (l0.length : Int) := dt_
         obtain ⟨ad481, e481, hx481_0, hx481_1, hx481_2⟩ := at_T64 HR0.out x14_1 p481 q481
         cases e481
         replace hx481_0 := hc_ HB hx481_0
         replace hx481_1 := hc_ HB hx481_1
         replace hx481_2 := hc_ HB hx481_2
         replace p481 := eq_true p481
         replace q481 := eq_true q481
         try go_wp2_with (first | (refine bx_ (N := 6) (cs := #[.string (⟨#[]⟩ : ByteArray), .int .i64 0, .bool false]) (t := 64) ?_; intro gb482 hg w10 hbox hb; have BK482 := Aside0.mk (hbox); have GW482 := ge_ HB hg; have GE482 := ge_ HB hg; replace HB := bs_ HB hb; clear hb hbox hg; obtain ⟨C11_0, C11_1, C11_2⟩ := zc3_ BK482.out; obtain ⟨F11_0, F11_1, F11_2⟩ := zf3_ BK482.out))
         obtain ⟨w12, hcw12⟩ : ∃ w_, w_ = (((w10.setCell ⟨gb482, 0, none⟩ (.string ((rd_T64 l0 x14_1).f0))).setCell ⟨gb482, 1, none⟩ (.int .i64 ((rd_T64 l0 x14_1).f1))).setCell ⟨gb482, 2, none⟩ (.bool ((rd_T64 l0 x14_1).f2))) := ⟨_, rfl⟩
         rw [← hcw12]
         have n0_ : Aside0 (w12.heap[gb482]? = some (.cells #[.string ((rd_T64 l0 x14_1).f0), .int .i64 ((rd_T64 l0 x14_1).f1), .bool ((rd_T64 l0 x14_1).f2)] 64 (0, 0))) := ⟨by rw [hcw12]; (with_reducible repeat (first | refine blk_drewN ?_ _ | refine blk_drew ?_ | refine blk_alloc ?_ _)); apply blk_all3_; (with_reducible repeat (first | refine blk_drewN ?_ _ | refine blk_drew ?_ | refine blk_alloc ?_ _)); exact BK482.out⟩
         have n1_ : Aside0 (Below w.heap.size w w12) := ⟨by rw [hcw12]; repeat (first | (with_reducible first | exact HB.out | apply below_alloc | apply pw_below_drewN | apply below_drew1 | refine below_set ?_ GE482.out) | exact HB.out)⟩
         (try clear BK482)
         (try clear HB)
         clear hcw12
         have BK482 := n0_
         have HB := n1_
         clear n0_ n1_
         replace BK482 := Aside0.mk (blk_drew BK482.out); replace HB := Aside0.mk (below_drew1 HB.out)
         have p483 : 0 ≤ (x14_1 : Int) := dt_
         have q483 : x14_1 < (l1.length : Int) := dt_
         obtain ⟨ad483, e483, hx483_0, hx483_1, hx483_2⟩ := at_T24 HR1.out x14_1 p483 q483
         have hw483_2 := hx483_2
         have hw483_1 := hx483_1
         have hw483_0 := hx483_0
         cases e483
         replace hx483_0 := hc_ HB hx483_0
         replace hx483_1 := hc_ HB hx483_1
         replace hx483_2 := hc_ HB hx483_2
         replace p483 := eq_true p483
         replace q483 := eq_true q483
         refine start_ (n := 10) (S := fun w' => w'.cell? ⟨gb482, 0, none⟩ = some (.string ((rd_T64 l0 x14_1).f0)) ∧ w'.cell? ⟨gb482, 1, none⟩ = some (.int .i64 ((rd_T64 l0 x14_1).f1)) ∧ w'.cell? ⟨gb482, 2, none⟩ = some (.bool ((rd_T64 l0 x14_1).f2)) ∧ w'.cell? (ad483.add ((x14_1).toNat * 3)) = some (.bool ((rd_T24 l1 x14_1).f0)) ∧ w'.cell? ⟨(ad483.add ((x14_1).toNat * 3)).block, (ad483.add ((x14_1).toNat * 3)).off + 1, none⟩ = some (.int .i64 ((rd_T24 l1 x14_1).f1)) ∧ w'.cell? ⟨(ad483.add ((x14_1).toNat * 3)).block, (ad483.add ((x14_1).toNat * 3)).off + 2, none⟩ = some (.string ((rd_T24 l1 x14_1).f2))) (ds := []) #[false, false, false, false, false, false, false, false, false, false] (by kernel_rfl) rfl rfl ⟨(blk_cell BK482.out 0).trans rfl, (blk_cell BK482.out 1).trans rfl, (blk_cell BK482.out 2).trans rfl, ((HB.out.cell (World.block_lt_of_cell? w _ hw483_0)).trans hw483_0), ((HB.out.cell (World.block_lt_of_cell? w _ hw483_1)).trans hw483_1), ((HB.out.cell (World.block_lt_of_cell? w _ hw483_2)).trans hw483_2)⟩ (fun hHeld => ?_); refine with_tabW schema_Row.tab6 schema_Row.bits6 (fun HT_ HW_ => ?_)
         generalize w12.drew = w13 at BK482 HB hx483_0 hx483_1 hx483_2 hHeld ⊢
         refine pu_ 0 (some 19) (bl_ 10 1) ?_
         refine pu_ 2 (some 21) (bl_ 10 5) ?_
         refine pu_ 4 (some 23) (bl_ 10 21) ?_
         refine pu_ 5 (some 24) (bl_ 10 53) ?_
         refine pu_ 6 (some 25) (bl_ 10 117) ?_
         refine ta_ 1 (some 20) (bl_ 10 119) hHeld ?_
         refine ta_ 3 (some 22) (bl_ 10 127) hHeld ?_
         refine ta_ 7 (some 26) (bl_ 10 255) hHeld ?_
         refine one_ (i := 8) (N := some 27) #[true, true, true, true, true, true, true, true, true, false] rfl rfl (one_of HT_.out (by kernel_rfl)) (by decide) (fun K hK => ?_)
         refine gs_ Try.func49 #[.int .i64 ((rd_T64 l0 x14_1).f1), .bool ((rd_T64 l0 x14_1).f2), .agg #[.bool ((rd_T24 l1 x14_1).f0), .int .i64 ((rd_T24 l1 x14_1).f1), .string ((rd_T24 l1 x14_1).f2)]] ?_
         with_reducible refine (cell_May.calls ((rd_T64 l0 x14_1).f1) ((rd_T64 l0 x14_1).f2) ((rd_T24 l1 x14_1).f0) ((rd_T24 l1 x14_1).f1) ((rd_T24 l1 x14_1).f2) true _ A8.out).mono ?_
         rintro e w14 ⟨rfl, hb⟩
         refine ⟨_, rfl, ?_⟩
         replace BK482 := bk_ BK482 hb; replace HB := bs_ HB hb
         (try clear hb)
         (try clear hb2)
         (try clear hk)
         (try clear hi)
         refine hK.out _ _ ⟨(blk_cell BK482.out 0).trans rfl, (blk_cell BK482.out 1).trans rfl, (blk_cell BK482.out 2).trans rfl, ((HB.out.cell (World.block_lt_of_cell? w _ hw483_0)).trans hw483_0), ((HB.out.cell (World.block_lt_of_cell? w _ hw483_1)).trans hw483_1), ((HB.out.cell (World.block_lt_of_cell? w _ hw483_2)).trans hw483_2)⟩ (fun hHeld => ?_)
         clear hK K
         refine norm_ (a' := ?_) ?_ ?_
         rotate_left
         ·show Act.put _ (some 27) _ = _
          simp only [Act.put, List.setIfInBounds_toArray, List.set_cons_zero, List.set_cons_succ, i64_w, i32_w]
          rfl
         refine pu_ 9 (some 28) (bl_ 10 1023) ?_
         refine done_ (done_of HT_.out (by kernel_rfl)) ?_
         try go_wp2
         go_roundg k1
         case measure => have := HK1.out; omega
         case rel => exact ⟨_, (by first | rfl | (simp; done) | (simp [*]; done)), H', ⟨by have := HK1.out; omega⟩, ⟨by repeat (first | (with_reducible first | exact HB.out | apply below_alloc | apply pw_below_drewN | apply below_drew1 | refine below_set ?_ GE482.out) | exact HB.out)⟩⟩
        ·replace c9 := Bool.eq_false_iff.mpr c9
         subst c9
         have H1 : (some false) = some r := by rw [if_neg (show ¬ (false = true) by decide)] at H; exact H
         clear H
         have H := H1
         clear H1
         obtain rfl := Option.some.inj H
         have p481 : 0 ≤ (x14_1 : Int) := dt_
         have q481 : x14_1 < (l0.length : Int) := dt_
         obtain ⟨ad481, e481, hx481_0, hx481_1, hx481_2⟩ := at_T64 HR0.out x14_1 p481 q481
         cases e481
         replace hx481_0 := hc_ HB hx481_0
         replace hx481_1 := hc_ HB hx481_1
         replace hx481_2 := hc_ HB hx481_2
         replace p481 := eq_true p481
         replace q481 := eq_true q481
         try go_wp2_with (first | (refine bx_ (N := 6) (cs := #[.string (⟨#[]⟩ : ByteArray), .int .i64 0, .bool false]) (t := 64) ?_; intro gb482 hg w15 hbox hb; have BK482 := Aside0.mk (hbox); have GW482 := ge_ HB hg; have GE482 := ge_ HB hg; replace HB := bs_ HB hb; clear hb hbox hg; obtain ⟨C16_0, C16_1, C16_2⟩ := zc3_ BK482.out; obtain ⟨F16_0, F16_1, F16_2⟩ := zf3_ BK482.out))
         obtain ⟨w17, hcw17⟩ : ∃ w_, w_ = (((w15.setCell ⟨gb482, 0, none⟩ (.string ((rd_T64 l0 x14_1).f0))).setCell ⟨gb482, 1, none⟩ (.int .i64 ((rd_T64 l0 x14_1).f1))).setCell ⟨gb482, 2, none⟩ (.bool ((rd_T64 l0 x14_1).f2))) := ⟨_, rfl⟩
         rw [← hcw17]
         have n0_ : Aside0 (w17.heap[gb482]? = some (.cells #[.string ((rd_T64 l0 x14_1).f0), .int .i64 ((rd_T64 l0 x14_1).f1), .bool ((rd_T64 l0 x14_1).f2)] 64 (0, 0))) := ⟨by rw [hcw17]; (with_reducible repeat (first | refine blk_drewN ?_ _ | refine blk_drew ?_ | refine blk_alloc ?_ _)); apply blk_all3_; (with_reducible repeat (first | refine blk_drewN ?_ _ | refine blk_drew ?_ | refine blk_alloc ?_ _)); exact BK482.out⟩
         have n1_ : Aside0 (Below w.heap.size w w17) := ⟨by rw [hcw17]; repeat (first | (with_reducible first | exact HB.out | apply below_alloc | apply pw_below_drewN | apply below_drew1 | refine below_set ?_ GE482.out) | exact HB.out)⟩
         (try clear BK482)
         (try clear HB)
         clear hcw17
         have BK482 := n0_
         have HB := n1_
         clear n0_ n1_
         replace BK482 := Aside0.mk (blk_drew BK482.out); replace HB := Aside0.mk (below_drew1 HB.out)
         have p483 : 0 ≤ (x14_1 : Int) := dt_
         have q483 : x14_1 < (l1.length : Int) := dt_
         obtain ⟨ad483, e483, hx483_0, hx483_1, hx483_2⟩ := at_T24 HR1.out x14_1 p483 q483
         have hw483_2 := hx483_2
         have hw483_1 := hx483_1
         have hw483_0 := hx483_0
         cases e483
         replace hx483_0 := hc_ HB hx483_0
         replace hx483_1 := hc_ HB hx483_1
         replace hx483_2 := hc_ HB hx483_2
         replace p483 := eq_true p483
         replace q483 := eq_true q483
         refine start_ (n := 10) (S := fun w' => w'.cell? ⟨gb482, 0, none⟩ = some (.string ((rd_T64 l0 x14_1).f0)) ∧ w'.cell? ⟨gb482, 1, none⟩ = some (.int .i64 ((rd_T64 l0 x14_1).f1)) ∧ w'.cell? ⟨gb482, 2, none⟩ = some (.bool ((rd_T64 l0 x14_1).f2)) ∧ w'.cell? (ad483.add ((x14_1).toNat * 3)) = some (.bool ((rd_T24 l1 x14_1).f0)) ∧ w'.cell? ⟨(ad483.add ((x14_1).toNat * 3)).block, (ad483.add ((x14_1).toNat * 3)).off + 1, none⟩ = some (.int .i64 ((rd_T24 l1 x14_1).f1)) ∧ w'.cell? ⟨(ad483.add ((x14_1).toNat * 3)).block, (ad483.add ((x14_1).toNat * 3)).off + 2, none⟩ = some (.string ((rd_T24 l1 x14_1).f2))) (ds := []) #[false, false, false, false, false, false, false, false, false, false] (by kernel_rfl) rfl rfl ⟨(blk_cell BK482.out 0).trans rfl, (blk_cell BK482.out 1).trans rfl, (blk_cell BK482.out 2).trans rfl, ((HB.out.cell (World.block_lt_of_cell? w _ hw483_0)).trans hw483_0), ((HB.out.cell (World.block_lt_of_cell? w _ hw483_1)).trans hw483_1), ((HB.out.cell (World.block_lt_of_cell? w _ hw483_2)).trans hw483_2)⟩ (fun hHeld => ?_); refine with_tabW schema_Row.tab6 schema_Row.bits6 (fun HT_ HW_ => ?_)
         generalize w17.drew = w18 at BK482 HB hx483_0 hx483_1 hx483_2 hHeld ⊢
         refine pu_ 0 (some 19) (bl_ 10 1) ?_
         refine pu_ 2 (some 21) (bl_ 10 5) ?_
         refine pu_ 4 (some 23) (bl_ 10 21) ?_
         refine pu_ 5 (some 24) (bl_ 10 53) ?_
         refine pu_ 6 (some 25) (bl_ 10 117) ?_
         refine ta_ 1 (some 20) (bl_ 10 119) hHeld ?_
         refine ta_ 3 (some 22) (bl_ 10 127) hHeld ?_
         refine ta_ 7 (some 26) (bl_ 10 255) hHeld ?_
         refine one_ (i := 8) (N := some 27) #[true, true, true, true, true, true, true, true, true, false] rfl rfl (one_of HT_.out (by kernel_rfl)) (by decide) (fun K hK => ?_)
         refine gs_ Try.func49 #[.int .i64 ((rd_T64 l0 x14_1).f1), .bool ((rd_T64 l0 x14_1).f2), .agg #[.bool ((rd_T24 l1 x14_1).f0), .int .i64 ((rd_T24 l1 x14_1).f1), .string ((rd_T24 l1 x14_1).f2)]] ?_
         with_reducible refine (cell_May.calls ((rd_T64 l0 x14_1).f1) ((rd_T64 l0 x14_1).f2) ((rd_T24 l1 x14_1).f0) ((rd_T24 l1 x14_1).f1) ((rd_T24 l1 x14_1).f2) false _ A8.out).mono ?_
         rintro e w19 ⟨rfl, hb⟩
         refine ⟨_, rfl, ?_⟩
         replace BK482 := bk_ BK482 hb; replace HB := bs_ HB hb
         (try clear hb)
         (try clear hb2)
         (try clear hk)
         (try clear hi)
         refine hK.out _ _ ⟨(blk_cell BK482.out 0).trans rfl, (blk_cell BK482.out 1).trans rfl, (blk_cell BK482.out 2).trans rfl, ((HB.out.cell (World.block_lt_of_cell? w _ hw483_0)).trans hw483_0), ((HB.out.cell (World.block_lt_of_cell? w _ hw483_1)).trans hw483_1), ((HB.out.cell (World.block_lt_of_cell? w _ hw483_2)).trans hw483_2)⟩ (fun hHeld => ?_)
         clear hK K
         refine norm_ (a' := ?_) ?_ ?_
         rotate_left
         ·show Act.put _ (some 27) _ = _
          simp only [Act.put, List.setIfInBounds_toArray, List.set_cons_zero, List.set_cons_succ, i64_w, i32_w]
          rfl
         refine pu_ 9 (some 28) (bl_ 10 1023) ?_
         refine done_ (done_of HT_.out (by kernel_rfl)) ?_
         try go_wp2
         go_ret
         exact en_ HB
       ·rw [if_neg c7] at H
        exact absurd H (by simp)
      ·rw [if_neg c6] at H
       exact absurd H (by simp)
     ·rw [if_neg c5] at H
      exact absurd H (by simp)
    ·rw [if_neg c4] at H
     have c4b0 : decide (x14_1 < (l0.length : Int)) = false := decide_eq_false c4
     clear c4
     obtain rfl := Option.some.inj H
     go_wp2
     go_ret
     exact en_ HB
 ·rw [if_neg c3] at H
  have c3b0 : ((l0.length : Int) == (l1.length : Int)) = false := beq_eq_false_iff_ne.mpr c3
  have c3b1 : ((l0.length : Int) != (l1.length : Int)) = true := bne_iff_ne.mpr c3
  have c3b2 : (l0.length == l1.length) = false := by first | simpa using c3 | (simp at c3 ⊢; omega)
  obtain rfl := Option.some.inj H
  go_enter Try.func40, Try.ntmps40
  go_wp2
  go_ret
  exact en_ HB
end Go.Proofs.Ytdedmhmomoejkaa.X
namespace Go.Proofs.Ytdedmhmomoejkaa.X
open Go.RowKit Go.Proofs.YtdedmhmomoejkaaW.PrintWords Go.Proofs.YtdedmhmomoejkaaW.PrintLast Go.Proofs.YtdedmhmomoejkaaW.PrintMore
attribute [local go_sem] max2_int max_two
set_option linter.unusedVariables false
set_option linter.unusedSimpArgs false
def eval_not.f (a0 : Int) : Option (Int) := if a0 = 2 then (some 2) else (some (wrap64 (1 - a0)))
set_option maxHeartbeats 8000000 in
set_option maxRecDepth 100000 in
theorem eval_not.calls (a0 : Int) (r : Int) (w : World) (h : eval_not.f a0 = some r) :
  Calls Try.prog 60 #[.int .i64 a0] w fun e w' => e = .returned (.int .i64 r) ∧ Drawn0 w w' := by
 have H : (if a0 = 2 then (some 2) else (some (wrap64 (1 - a0)))) = some r := h
 clear h
 by_cases c2 : a0 = 2
 rotate_left
 focus
  rw [if_neg c2] at H
  have c2b0 : (a0 == 2) = false := beq_eq_false_iff_ne.mpr c2
  have c2b1 : (a0 != 2) = true := bne_iff_ne.mpr c2
 rotate_right
 focus
  rw [if_pos c2] at H
  have c2b0 : (a0 == 2) = true := beq_iff_eq.mpr c2
  have c2b1 : (a0 != 2) = false := bne_eq_false_iff_eq.mpr c2
  clear c2
 all_goals
  obtain rfl := Option.some.inj H
  go_enter Try.func60, Try.ntmps60
  go_wp2
  go_ret
  exact ⟨by first | rfl | (simp; done) | (simp [*]; done), by repeat (first | exact Drawn0.refl _ | apply Drawn0.step)⟩
end Go.Proofs.Ytdedmhmomoejkaa.X
namespace Go.Proofs.Ytdedmhmomoejkaa.X
open Go.RowKit Go.Proofs.YtdedmhmomoejkaaW.PrintWords Go.Proofs.YtdedmhmomoejkaaW.PrintLast Go.Proofs.YtdedmhmomoejkaaW.PrintMore
attribute [local go_sem] max2_int max_two
set_option linter.unusedVariables false
set_option linter.unusedSimpArgs false
def eval_truth.f (a0 : Bool) : Option (Int) := if a0 = true then (some 1) else (some 0)
set_option maxHeartbeats 8000000 in
set_option maxRecDepth 100000 in
theorem eval_truth.calls (a0 : Bool) (r : Int) (w : World) (h : eval_truth.f a0 = some r) :
  Calls Try.prog 61 #[.bool a0] w fun e w' => e = .returned (.int .i64 r) ∧ Drawn0 w w' := by
 have H : (if a0 = true then (some 1) else (some 0)) = some r := h
 clear h
 by_cases c2 : a0 = true
 rotate_left
 focus
  replace c2 := Bool.eq_false_iff.mpr c2
  subst c2
  have H1 : (some 0) = some r := by rw [if_neg (show ¬ (false = true) by decide)] at H; exact H
 rotate_right
 focus
  subst c2
  have H1 : (some 1) = some r := by rw [if_pos rfl] at H; exact H
 all_goals
  clear H
  have H := H1
  clear H1
  obtain rfl := Option.some.inj H
  go_enter Try.func61, Try.ntmps61
  go_wp2
  go_ret
  exact ⟨by first | rfl | (simp; done) | (simp [*]; done), by repeat (first | exact Drawn0.refl _ | apply Drawn0.step)⟩
end Go.Proofs.Ytdedmhmomoejkaa.X
namespace Go.Proofs.Ytdedmhmomoejkaa.X
open Go.RowKit Go.Proofs.YtdedmhmomoejkaaW.PrintWords Go.Proofs.YtdedmhmomoejkaaW.PrintLast Go.Proofs.YtdedmhmomoejkaaW.PrintMore
attribute [local go_sem] max2_int max_two
set_option linter.unusedVariables false
set_option linter.unusedSimpArgs false
def eval_rank.f (a0 : Bool) : Option (Int) := if a0 = true then (some 1) else (some 0)
set_option maxHeartbeats 8000000 in
set_option maxRecDepth 100000 in
theorem eval_rank.calls (a0 : Bool) (r : Int) (w : World) (h : eval_rank.f a0 = some r) :
  Calls Try.prog 105 #[.bool a0] w fun e w' => e = .returned (.int .i64 r) ∧ Drawn0 w w' := by
 have H : (if a0 = true then (some 1) else (some 0)) = some r := h
 clear h
 by_cases c2 : a0 = true
 rotate_left
 focus
  replace c2 := Bool.eq_false_iff.mpr c2
  subst c2
  have H1 : (some 0) = some r := by rw [if_neg (show ¬ (false = true) by decide)] at H; exact H
 rotate_right
 focus
  subst c2
  have H1 : (some 1) = some r := by rw [if_pos rfl] at H; exact H
 all_goals
  clear H
  have H := H1
  clear H1
  obtain rfl := Option.some.inj H
  go_enter Try.func105, Try.ntmps105
  go_wp2
  go_ret
  exact ⟨by first | rfl | (simp; done) | (simp [*]; done), by repeat (first | exact Drawn0.refl _ | apply Drawn0.step)⟩
end Go.Proofs.Ytdedmhmomoejkaa.X
namespace Go.Proofs.Ytdedmhmomoejkaa.X
open Go.RowKit Go.Proofs.YtdedmhmomoejkaaW.PrintWords Go.Proofs.YtdedmhmomoejkaaW.PrintLast Go.Proofs.YtdedmhmomoejkaaW.PrintMore
set_option linter.unusedVariables false
set_option linter.unusedSimpArgs false
def toV (ty : Int) (c0 : Bool) (c1 : Int) (c2 : ByteArray) : Value :=
  if c0 = true then .nilIface else if ty = 1 then .iface 2 (.int .i64 c1) else if ty = 2 then .iface 4 (.bool (c1 != 0)) else if ty = 3 then .iface 9 (.string c2) else .nilIface
set_option maxHeartbeats 4000000 in
set_option maxRecDepth 100000 in
theorem to85 (ty : Int) (c0 : Bool) (c1 : Int) (c2 : ByteArray) (w : World) : Calls Try.prog 85 #[.int .i64 ty, .agg #[.bool c0, .int .i64 c1, .string c2]] w fun e w' => e = .returned (toV ty c0 c1 c2) ∧ Below w.heap.size w w' := by
  have hu24 := Try.underlying24
  cases c0 with
  | true =>
    go_enter Try.func85, Try.ntmps85
    go_wp2
    refine bodyPost_ret (v := .nilIface) (by simp [results, Try.results85, go_sem]) rfl ⟨rfl, ?_⟩
    repeat (first | exact Below.refl _ _ | apply below_alloc)
  | false =>
    by_cases t1 : ty = 1
    · have t1b : (ty == 1) = true := beq_iff_eq.2 t1
      have T := Aside0.mk t1
      clear t1
      go_enter Try.func85, Try.ntmps85
      go_wp2
      refine bodyPost_ret (v := .iface 2 (.int .i64 c1)) (by simp [results, Try.results85, go_sem]) rfl ⟨?_, ?_⟩
      · rw [toV, if_neg (by simp), if_pos T.out]
      · repeat (first | exact Below.refl _ _ | apply below_alloc)
    have t1b : (ty == 1) = false := beq_eq_false_iff_ne.2 t1
    have T := Aside0.mk t1
    clear t1
    by_cases t2 : ty = 2
    · have t2b : (ty == 2) = true := beq_iff_eq.2 t2
      have T2 := Aside0.mk t2
      clear t2
      go_enter Try.func85, Try.ntmps85
      go_wp2
      refine bodyPost_ret (v := .iface 4 (.bool (c1 != 0))) (by simp [results, Try.results85, go_sem]) rfl ⟨?_, ?_⟩
      · rw [toV, if_neg (by simp), if_neg T.out, if_pos T2.out]
      · repeat (first | exact Below.refl _ _ | apply below_alloc)
    have t2b : (ty == 2) = false := beq_eq_false_iff_ne.2 t2
    have T2 := Aside0.mk t2
    clear t2
    by_cases t3 : ty = 3
    · have t3b : (ty == 3) = true := beq_iff_eq.2 t3
      have T3 := Aside0.mk t3
      clear t3
      go_enter Try.func85, Try.ntmps85
      go_wp2
      refine bodyPost_ret (v := .iface 9 (.string c2)) (by simp [results, Try.results85, go_sem]) rfl ⟨?_, ?_⟩
      · rw [toV, if_neg (by simp), if_neg T.out, if_neg T2.out, if_pos T3.out]
      · repeat (first | exact Below.refl _ _ | apply below_alloc)
    have t3b : (ty == 3) = false := beq_eq_false_iff_ne.2 t3
    have T3 := Aside0.mk t3
    clear t3
    go_enter Try.func85, Try.ntmps85
    go_wp2
    refine bodyPost_ret (v := .nilIface) (by simp [results, Try.results85, go_sem]) rfl ⟨?_, ?_⟩
    · rw [toV, if_neg (by simp), if_neg T.out, if_neg T2.out, if_neg T3.out]
    · repeat (first | exact Below.refl _ _ | apply below_alloc)
theorem as2 (v : Value) (w : World) : (Instr.typeAssert (.iface 2 v) 20 2 false).run Try.prog w = .ok v w := by kernel_rfl
theorem as9 (v : Value) (w : World) : (Instr.typeAssert (.iface 9 v) 20 9 false).run Try.prog w = .ok v w := by kernel_rfl
theorem as4 (v : Value) (w : World) : (Instr.typeAssert (.iface 4 v) 20 4 false).run Try.prog w = .ok v w := by kernel_rfl
theorem is2 (v : Value) (w : World) : (Instr.typeAssert (.iface 2 v) 20 2 true).run Try.prog w = .ok (.tuple #[v, .bool true]) w := by kernel_rfl
theorem is9_2 (v : Value) (w : World) : (Instr.typeAssert (.iface 9 v) 20 2 true).run Try.prog w = .ok (.tuple #[.int .i64 0, .bool false]) w := by kernel_rfl
theorem is4_2 (v : Value) (w : World) : (Instr.typeAssert (.iface 4 v) 20 2 true).run Try.prog w = .ok (.tuple #[.int .i64 0, .bool false]) w := by kernel_rfl
theorem is9 (v : Value) (w : World) : (Instr.typeAssert (.iface 9 v) 20 9 true).run Try.prog w = .ok (.tuple #[v, .bool true]) w := by kernel_rfl
theorem is4_9 (v : Value) (w : World) : (Instr.typeAssert (.iface 4 v) 20 9 true).run Try.prog w = .ok (.tuple #[.string ⟨#[]⟩, .bool false]) w := by kernel_rfl
attribute [local go_sem] as2 as9 as4 is2 is9_2 is4_2 is9 is4_9
set_option maxRecDepth 100000 in
theorem int104 (n : Int) (w : World) : Calls Try.prog 104 #[.iface 2 (.int .i64 n)] w fun e w' => e = .returned (.int .i64 n) ∧ w' = w := by
  go_enter Try.func104, Try.ntmps104
  go_wp2
  go_ret
  exact ⟨rfl, rfl⟩
set_option maxRecDepth 100000 in
theorem text82 (s : ByteArray) (w : World) : Calls Try.prog 82 #[.iface 9 (.string s)] w fun e w' => e = .returned (.string s) ∧ w' = w := by
  go_enter Try.func82, Try.ntmps82
  go_wp2
  go_ret
  exact ⟨rfl, rfl⟩
set_option maxRecDepth 100000 in
theorem bool106 (b : Bool) (w : World) : Calls Try.prog 106 #[.iface 4 (.bool b)] w fun e w' => e = .returned (.bool b) ∧ w' = w := by
  go_enter Try.func106, Try.ntmps106
  go_wp2
  go_ret
  exact ⟨rfl, rfl⟩
def rankI (b : Bool) : Int := if b then 1 else 0
def ordV (ty : Int) (a1 : Int) (a2 : ByteArray) (b1 : Int) (b2 : ByteArray) : Int := if ty = 1 then cmpI a1 b1 else if ty = 3 then cmpT a2 b2 else cmpI (rankI (a1 != 0)) (rankI (b1 != 0))
set_option maxHeartbeats 4000000 in
set_option maxRecDepth 100000 in
theorem order84 (ty : Int) (h : ty = 1 ∨ ty = 2 ∨ ty = 3) (a1 : Int) (a2 : ByteArray) (b1 : Int) (b2 : ByteArray) (w : World) :
    Calls Try.prog 84 #[toV ty false a1 a2, toV ty false b1 b2] w fun e w' => e = .returned (.int .i64 (ordV ty a1 a2 b1 b2)) ∧ Below w.heap.size w w' := by
  rcases h with h | h | h
  · subst h
    show Calls Try.prog 84 #[.iface 2 (.int .i64 a1), .iface 2 (.int .i64 b1)] w fun e w' => e = .returned (.int .i64 (cmpI a1 b1)) ∧ Below w.heap.size w w'
    go_enter Try.func84, Try.ntmps84
    go_wp2_with fail
    refine (int104 b1 w).mono ?_
    rintro e w1 ⟨rfl, rfl⟩
    go_wp2_with fail
    refine (cmp_Compare_int64.calls a1 b1 _ w1 (cmpI64_f a1 b1)).mono ?_
    rintro e w2 ⟨rfl, hd⟩
    go_wp2
    go_ret
    exact ⟨rfl, hd.below⟩
  · subst h
    show Calls Try.prog 84 #[.iface 4 (.bool (a1 != 0)), .iface 4 (.bool (b1 != 0))] w fun e w' => e = .returned (.int .i64 (cmpI (rankI (a1 != 0)) (rankI (b1 != 0)))) ∧ Below w.heap.size w w'
    go_enter Try.func84, Try.ntmps84
    go_wp2_with fail
    refine (bool106 (a1 != 0) w).mono ?_
    rintro e w1 ⟨rfl, rfl⟩
    go_wp2_with fail
    refine (eval_rank.calls (a1 != 0) (rankI (a1 != 0)) w1 (by unfold eval_rank.f rankI; cases (a1 != 0) <;> rfl)).mono ?_
    rintro e w2 ⟨rfl, hd⟩
    have H2 := Aside0.mk hd.below
    clear hd
    go_wp2_with fail
    refine (bool106 (b1 != 0) w2).mono ?_
    rintro e w3 ⟨rfl, rfl⟩
    go_wp2_with fail
    refine (eval_rank.calls (b1 != 0) (rankI (b1 != 0)) w3 (by unfold eval_rank.f rankI; cases (b1 != 0) <;> rfl)).mono ?_
    rintro e w4 ⟨rfl, hd⟩
    have H4 := Aside0.mk (below_step H2.out hd.below)
    clear hd
    go_wp2_with fail
    refine (cmp_Compare_int.calls (rankI (a1 != 0)) (rankI (b1 != 0)) _ w4 (cmpI_f _ _)).mono ?_
    rintro e w5 ⟨rfl, hd⟩
    have H5 := Aside0.mk (below_step H4.out hd.below)
    clear hd
    go_wp2
    go_ret
    exact ⟨rfl, H5.out⟩
  · subst h
    show Calls Try.prog 84 #[.iface 9 (.string a2), .iface 9 (.string b2)] w fun e w' => e = .returned (.int .i64 (cmpT a2 b2)) ∧ Below w.heap.size w w'
    go_enter Try.func84, Try.ntmps84
    go_wp2_with fail
    refine (text82 b2 w).mono ?_
    rintro e w1 ⟨rfl, rfl⟩
    go_wp2_with fail
    refine (cmp_Compare_string.calls a2 b2 _ w1 (cmpT_f a2 b2)).mono ?_
    rintro e w2 ⟨rfl, hd⟩
    go_wp2
    go_ret
    exact ⟨rfl, hd.below⟩
end Go.Proofs.Ytdedmhmomoejkaa.X
namespace Go.Proofs.Ytdedmhmomoejkaa.X
open Go.RowKit Go.Proofs.YtdedmhmomoejkaaW.PrintWords Go.Proofs.YtdedmhmomoejkaaW.PrintLast Go.Proofs.YtdedmhmomoejkaaW.PrintMore
set_option linter.unusedVariables false
set_option linter.unusedSimpArgs false
set_option maxHeartbeats 4000000 in
set_option maxRecDepth 100000 in
theorem value80 (A0 : Option Addr) (c0 : Nat) (l0 : List S64) (A1 : Option Addr) (c1 : Nat) (l1 : List S24) (s : ByteArray) (w : World) (hr0 : Kd.C k64 w A0 l0.length l0) (hc0 : l0.length ≤ c0) (hr1 : Kd.C k24 w A1 l1.length l1) (hc1 : l1.length ≤ c1)
    (q : Int) (hq : q = idxOf (fun y : S64 => y.f0.toList == s.toList) l0) (h0 : 0 ≤ q) (h1 : q < l0.length) (h2 : q < l1.length) :
    Calls Try.prog 80 #[.agg #[.slice A0 l0.length c0, .slice A1 l1.length c1], .string s] w fun e w' => e = .returned (toV (rd_T64 l0 q).f1 (rd_T24 l1 q).f0 (rd_T24 l1 q).f1 (rd_T24 l1 q).f2) ∧ Below w.heap.size w w' := by
  have hu24 := Try.underlying24
  have hu81 := Try.underlying81
  have HR0 := Aside0.mk hr0
  have HC0 := Aside0.mk hc0
  have HR1 := Aside0.mk hr1
  have HC1 := Aside0.mk hc1
  clear hr0 hc0 hr1 hc1
  have HF : Aside0 (schema_Find.f l0 s = some (mx q 0, decide (0 ≤ q))) := ⟨by rw [hq]; rfl⟩
  have hmx : mx q 0 = q := by unfold mx; split <;> omega
  clear hq
  go_enter Try.func80, Try.ntmps80
  go_wp2_with fail
  refine (schema_Find.calls A0 c0 l0 s (mx q 0) (decide (0 ≤ q)) _ (Kd.C_below HR0.out (below_alloc (Below.refl _ _) _)) HC0.out HF.out).mono ?_
  rintro e w1 ⟨rfl, hb⟩
  rw [hmx]
  have BK : Aside0 (w1.heap[w.heap.size]? = some (.cells #[.slice A0 l0.length c0, .slice A1 l1.length c1] 81 (0, 0))) := ⟨blk_below (heap_alloc_new w _) hb⟩
  have HB : Aside0 (Below w.heap.size w w1) := ⟨below_step (below_alloc (Below.refl _ _) _) hb⟩
  clear hb HF hmx
  obtain ⟨ad, e, g0, g1, g2⟩ := at_T64 (Kd.C_below HR0.out HB.out) q h0 h1
  cases e
  obtain ⟨ae, e, k0, k1, k2⟩ := at_T24 (Kd.C_below HR1.out HB.out) q h0 h2
  cases e
  have hz0 : w1.cell? ⟨w.heap.size, 0, none⟩ = some (.slice (some ad) l0.length c0) := (blk_cell BK.out 0).trans rfl
  have hz1 : w1.cell? ⟨w.heap.size, 1, none⟩ = some (.slice (some ae) l1.length c1) := (blk_cell BK.out 1).trans rfl
  go_wp2_with fail
  go_still_tail 11, (by kernel_rfl)
  change wpList _ _ _ _ _ w1.drew
  have HB2 := Aside0.mk (below_drew1 HB.out)
  generalize w1.drew = w2 at HB2 ⊢
  clear g0 g1 g2 k0 k1 k2 hz0 hz1 BK HB
  go_wp2_with fail
  refine (to85 _ _ _ _ w2).mono ?_
  rintro e w3 ⟨rfl, hb⟩
  have HB3 := Aside0.mk (below_step HB2.out hb)
  clear hb
  go_wp2
  go_ret
  exact ⟨rfl, HB3.out⟩
end Go.Proofs.Ytdedmhmomoejkaa.X
namespace Go.Proofs.Ytdedmhmomoejkaa.X
open Go.RowKit Go.Proofs.YtdedmhmomoejkaaW.PrintWords Go.Proofs.YtdedmhmomoejkaaW.PrintLast Go.Proofs.YtdedmhmomoejkaaW.PrintMore
attribute [local go_sem] max2_int max_two
set_option linter.unusedVariables false
set_option linter.unusedSimpArgs false
def eval_holds.f (a0 : Int) (a1 : Int) : Option (Bool) := if a0 = 1 then (some (a1 == 0)) else (if a0 = 2 then (some (a1 != 0)) else (if a0 = 3 then (some (decide (a1 < 0))) else (if a0 = 4 then (some (decide (a1 ≤ 0))) else (if a0 = 5 then (some (decide (a1 > 0))) else (some (decide (a1 ≥ 0)))))))
set_option maxHeartbeats 8000000 in
set_option maxRecDepth 100000 in
theorem eval_holds.calls (a0 : Int) (a1 : Int) (r : Bool) (w : World) (h : eval_holds.f a0 a1 = some r) :
  Calls Try.prog 83 #[.int .i64 a0, .int .i64 a1] w fun e w' => e = .returned (.bool r) ∧ Drawn0 w w' := by
 have H : (if a0 = 1 then (some (a1 == 0)) else (if a0 = 2 then (some (a1 != 0)) else (if a0 = 3 then (some (decide (a1 < 0))) else (if a0 = 4 then (some (decide (a1 ≤ 0))) else (if a0 = 5 then (some (decide (a1 > 0))) else (some (decide (a1 ≥ 0)))))))) = some r := h
 clear h
 by_cases c3 : a0 = 1
 rotate_left
 focus
  rw [if_neg c3] at H
  have c3b0 : (a0 == 1) = false := beq_eq_false_iff_ne.mpr c3
  have c3b1 : (a0 != 1) = true := bne_iff_ne.mpr c3
  by_cases c4 : a0 = 2
  rotate_left
  focus
   rw [if_neg c4] at H
   have c4b0 : (a0 == 2) = false := beq_eq_false_iff_ne.mpr c4
   have c4b1 : (a0 != 2) = true := bne_iff_ne.mpr c4
   by_cases c5 : a0 = 3
   rotate_left
   focus
    rw [if_neg c5] at H
    have c5b0 : (a0 == 3) = false := beq_eq_false_iff_ne.mpr c5
    have c5b1 : (a0 != 3) = true := bne_iff_ne.mpr c5
    by_cases c6 : a0 = 4
    rotate_left
    focus
     rw [if_neg c6] at H
     have c6b0 : (a0 == 4) = false := beq_eq_false_iff_ne.mpr c6
     have c6b1 : (a0 != 4) = true := bne_iff_ne.mpr c6
     by_cases c7 : a0 = 5
     rotate_left
     focus
      rw [if_neg c7] at H
      have c7b0 : (a0 == 5) = false := beq_eq_false_iff_ne.mpr c7
      have c7b1 : (a0 != 5) = true := bne_iff_ne.mpr c7
     rotate_right
     focus
      rw [if_pos c7] at H
      have c7b0 : (a0 == 5) = true := beq_iff_eq.mpr c7
      have c7b1 : (a0 != 5) = false := bne_eq_false_iff_eq.mpr c7
      clear c7
    rotate_right
    focus
     rw [if_pos c6] at H
     have c6b0 : (a0 == 4) = true := beq_iff_eq.mpr c6
     have c6b1 : (a0 != 4) = false := bne_eq_false_iff_eq.mpr c6
     clear c6
   rotate_right
   focus
    rw [if_pos c5] at H
    have c5b0 : (a0 == 3) = true := beq_iff_eq.mpr c5
    have c5b1 : (a0 != 3) = false := bne_eq_false_iff_eq.mpr c5
    clear c5
  rotate_right
  focus
   rw [if_pos c4] at H
   have c4b0 : (a0 == 2) = true := beq_iff_eq.mpr c4
   have c4b1 : (a0 != 2) = false := bne_eq_false_iff_eq.mpr c4
   clear c4
 rotate_right
 focus
  rw [if_pos c3] at H
  have c3b0 : (a0 == 1) = true := beq_iff_eq.mpr c3
  have c3b1 : (a0 != 1) = false := bne_eq_false_iff_eq.mpr c3
  clear c3
 all_goals
  obtain rfl := Option.some.inj H
  go_enter Try.func83, Try.ntmps83
  go_wp2
  go_ret
  exact ⟨by first | rfl | (simp; done) | (simp [*]; done), by repeat (first | exact Drawn0.refl _ | apply Drawn0.step)⟩
end Go.Proofs.Ytdedmhmomoejkaa.X
namespace Go.Proofs.Ytdedmhmomoejkaa.X
open Go.RowKit Go.Proofs.YtdedmhmomoejkaaW.PrintWords Go.Proofs.YtdedmhmomoejkaaW.PrintLast Go.Proofs.YtdedmhmomoejkaaW.PrintMore
set_option linter.unusedVariables false
set_option linter.unusedSimpArgs false
def holdsB (op n : Int) : Bool := if op = 1 then n == 0 else if op = 2 then n != 0 else if op = 3 then decide (n < 0) else if op = 4 then decide (n ≤ 0) else if op = 5 then decide (n > 0) else decide (n ≥ 0)
def truthI (b : Bool) : Int := if b = true then 1 else 0
def leafE (ty : Int) (c : S24) (x : S27) (m : Bool) : Int :=
  if x.f0 = 1 then 1 else if x.f0 = 3 then truthI c.f0 else if c.f0 = true then 2 else if x.f0 = 4 then truthI m else truthI (holdsB x.f2 (ordV ty c.f1 c.f2 x.f3.f1 x.f3.f2))
def s62r9.T : Bool × List (List Nat × List Nat) := (true, [([], []), ([0], [0]), ([], []), ([2], [2]), ([1, 3, 3], [1, 3]), ([4, 4], [4]), ([5, 5, 0, 1, 2, 3, 4, 5], [5])])
def s62r9.B : List Nat := [0, 1, 0, 4, 15, 31, 63]
theorem s62r9.tab : rtab .any (opsOf Try.f62 9) = s62r9.T := by kernel_rfl
theorem s62r9.bits : waitsOk s62r9.T.2 s62r9.B = true := by kernel_rfl
def s62r10.T : Bool × List (List Nat × List Nat) := (true, [([], []), ([0], [0]), ([], []), ([], []), ([3], [3]), ([], []), ([5], [5]), ([4, 6], [4, 6]), ([2, 7, 7], [2, 7]), ([1, 8, 8], [1, 8]), ([9, 9], [9]), ([10, 10, 0, 1, 2, 3, 4, 5, 6, 7, 8, 9, 10], [10])])
def s62r10.B : List Nat := [0, 1, 0, 0, 8, 0, 32, 120, 252, 511, 1023, 2047]
theorem s62r10.tab : rtab .any (opsOf Try.f62 10) = s62r10.T := by kernel_rfl
theorem s62r10.bits : waitsOk s62r10.T.2 s62r10.B = true := by kernel_rfl
theorem truthI_f (b : Bool) : eval_truth.f b = some (truthI b) := by cases b <;> rfl
theorem holdsB_f (op n : Int) : eval_holds.f op n = some (holdsB op n) := by
  unfold eval_holds.f holdsB
  repeat' (first | rfl | split)
set_option maxHeartbeats 4000000 in
set_option maxRecDepth 100000 in
theorem simple62 (A0 : Option Addr) (c0 : Nat) (l0 : List S64) (A1 : Option Addr) (c1 : Nat) (l1 : List S24) (x : S27) (A8 : Option Addr) (c8 : Nat) (w : World) (hr0 : Kd.C k64 w A0 l0.length l0) (hc0 : l0.length ≤ c0) (hr1 : Kd.C k24 w A1 l1.length l1) (hc1 : l1.length ≤ c1) (hr8 : Kd.C k27 w A8 x.f6.length x.f6) (hc8 : x.f6.length ≤ c8)
    (q : Int) (hq : q = idxOf (fun y : S64 => y.f0.toList == x.f1.toList) l0) (h0 : 0 ≤ q) (h1 : q < l0.length) (h2 : q < l1.length) (hf : x.f0 ≠ 1) (hty : (rd_T64 l0 q).f1 = 1 ∨ (rd_T64 l0 q).f1 = 2 ∨ (rd_T64 l0 q).f1 = 3)
    (h4 : x.f0 = 4 → (rd_T64 l0 q).f1 = 3) (h24 : x.f0 = 2 ∨ x.f0 = 3 ∨ x.f0 = 4) (hv : x.f0 = 2 → x.f4 = (rd_T64 l0 q).f1 ∧ x.f3.f0 = false) (m : Bool)
    (hM : x.f0 = 4 → ∀ W, Calls Try.prog 81 #[.string x.f5, .string (rd_T24 l1 q).f2] W fun e w' => e = .returned (.bool m) ∧ Below W.heap.size W w') :
    Calls Try.prog 62 #[.agg #[.slice A0 l0.length c0, .slice A1 l1.length c1], .agg #[.int .i64 x.f0, .string x.f1, .int .i64 x.f2, .bool x.f3.f0, .int .i64 x.f3.f1, .string x.f3.f2, .int .i64 x.f4, .string x.f5, .slice A8 x.f6.length c8]] w fun e w' => e = .returned (.int .i64 (leafE (rd_T64 l0 q).f1 (rd_T24 l1 q) x m)) ∧ Below w.heap.size w w' := by
  have hu24 := Try.underlying24
  have hu81 := Try.underlying81
  have hu27 := Try.underlying27
  have HR0 := Aside0.mk hr0
  have HC0 := Aside0.mk hc0
  have HR1 := Aside0.mk hr1
  have HC1 := Aside0.mk hc1
  have HQ := Aside0.mk hq
  have HM := Aside0.mk hM
  have H0 := Aside0.mk h0
  have H1 := Aside0.mk h1
  have H2 := Aside0.mk h2
  have o1 : (x.f0 == 1) = false := beq_eq_false_iff_ne.2 hf
  have V80 := Aside0.mk (fun W hW => value80 A0 c0 l0 A1 c1 l1 x.f1 W (Kd.C_below hr0 hW) hc0 (Kd.C_below hr1 hW) hc1 q hq h0 h1 h2)
  have H24 := Aside0.mk h24
  have HV := Aside0.mk hv
  have H4 := Aside0.mk h4
  clear hr0 hc0 hr1 hc1 hr8 hc8 hq h0 h1 h2 hM h24 hf hv h4
  generalize rd_T24 l1 q = c at V80 HM ⊢
  generalize (rd_T64 l0 q).f1 = ty at V80 hty HV H4 ⊢
  go_enter Try.func62, Try.ntmps62
  go_wp2_with fail
  refine (V80.out _ (below_alloc (below_alloc (Below.refl _ _) _) _)).mono ?_
  rintro e w1 ⟨rfl, hb⟩
  have BK : Aside0 (w1.heap[w.heap.size + 1]? = some (.cells #[.int .i64 x.f0, .string x.f1, .int .i64 x.f2, .bool x.f3.f0, .int .i64 x.f3.f1, .string x.f3.f2, .int .i64 x.f4, .string x.f5, .slice A8 x.f6.length c8] 27 (0, 0))) := ⟨blk_below (by have h := heap_alloc_new (w.alloc (.cells #[.slice A0 l0.length c0, .slice A1 l1.length c1] 81)) (.cells #[.int .i64 x.f0, .string x.f1, .int .i64 x.f2, .bool x.f3.f0, .int .i64 x.f3.f1, .string x.f3.f2, .int .i64 x.f4, .string x.f5, .slice A8 x.f6.length c8] 27); simpa using h) hb⟩
  have HB : Aside0 (Below w.heap.size w w1) := ⟨below_step (below_alloc (below_alloc (Below.refl _ _) _) _) hb⟩
  clear hb V80
  obtain ⟨hz0, hz1, hz2, hz3, hz4, hz5, hz6, hz7, hz8⟩ := cz9_ BK.out
  obtain ⟨n, i, s⟩ := c
  cases n with
  | true =>
    simp only [toV, if_true]
    by_cases o3 : x.f0 = 3
    · have o3b : (x.f0 == 3) = true := beq_iff_eq.2 o3
      have O3 := Aside0.mk o3
      clear o3
      go_wp2_with fail
      refine (eval_truth.calls true _ w1 (truthI_f _)).mono ?_
      rintro e w2 ⟨rfl, hd⟩
      have HB2 := Aside0.mk (below_step HB.out hd.below)
      clear hd
      go_wp2
      go_ret
      refine ⟨?_, HB2.out⟩
      rw [leafE, if_neg (by have := O3.out; omega), if_pos O3.out]
      rfl
    · have o3b : (x.f0 == 3) = false := beq_eq_false_iff_ne.2 o3
      have O3 := Aside0.mk o3
      clear o3
      go_wp2
      go_ret
      refine ⟨?_, HB.out⟩
      rw [leafE, if_neg (by have := H24.out; omega), if_neg O3.out]
      rfl
  | false =>
    by_cases o3 : x.f0 = 3
    · have o3b : (x.f0 == 3) = true := beq_iff_eq.2 o3
      have O3 := Aside0.mk o3
      clear o3
      rcases hty with t | t | t
      all_goals
        subst t
        simp only [toV, reduceCtorEq, if_false, if_true, Int.reduceEq]
        go_wp2_with fail
        refine (eval_truth.calls false _ w1 (truthI_f _)).mono ?_
        rintro e w2 ⟨rfl, hd⟩
        have HB2 := Aside0.mk (below_step HB.out hd.below)
        clear hd
        go_wp2
        go_ret
        refine ⟨?_, HB2.out⟩
        rw [leafE, if_neg (by have := O3.out; omega), if_pos O3.out]
        rfl
    have o3b : (x.f0 == 3) = false := beq_eq_false_iff_ne.2 o3
    have O3 := Aside0.mk o3
    clear o3
    by_cases o4 : x.f0 = 4
    · have o4b : (x.f0 == 4) = true := beq_iff_eq.2 o4
      have O4 := Aside0.mk o4
      have t := H4.out o4
      clear o4
      subst t
      simp only [toV, reduceCtorEq, if_false, if_true, Int.reduceEq] at HM ⊢
      go_wp2_with fail
      refine start_ (n := 7) (S := (fun wX => Below w.heap.size w wX ∧ wX.heap[w.heap.size + 1]? = some (.cells #[.int .i64 x.f0, .string x.f1, .int .i64 x.f2, .bool x.f3.f0, .int .i64 x.f3.f1, .string x.f3.f2, .int .i64 x.f4, .string x.f5, .slice A8 x.f6.length c8] 27 (0, 0)))) (ds := []) #[false, false, false, false, false, false, false] (by kernel_rfl) rfl rfl ⟨below_drew1 HB.out, blk_drew BK.out⟩ (fun HS => ?_)
      refine with_tabW s62r9.tab s62r9.bits (fun HT_ HW_ => ?_)
      generalize w1.drew = w3 at HS ⊢
      clear HB BK hz0 hz1 hz2 hz3 hz4 hz5 hz6 hz7 hz8
      refine pu_ 0 (some 27) (bl_ 7 1) ?_
      refine pu_ 2 (some 29) (bl_ 7 5) ?_
      refine take_ (i := 1) (N := some 28) (v := ?_) (a' := ?_) (bl_ 7 7) rfl rfl (take_ofW HT_.out HW_.out (by kernel_rfl)) (fun _ _ _ h => h) (Or.inl ⟨by rfl, ?_⟩) HS ?_ ?_; rotate_left
      · rintro w' ⟨sB, sK⟩; obtain ⟨hz0, hz1, hz2, hz3, hz4, hz5, hz6, hz7, hz8⟩ := cz9_ sK; go_simp; with_reducible rfl
      rotate_left
      · simp only [Act.put, List.setIfInBounds_toArray, List.set_cons_zero, List.set_cons_succ, i64_w, i32_w]; rfl
      refine one_ (i := 3) (N := some 30) (bl_ 7 15) rfl rfl (one_of HT_.out (by kernel_rfl)) (by decide) (fun K hK => ?_)
      refine gs_ Try.func82 #[.iface 9 (.string s)] ?_
      refine (text82 s w3).mono ?_
      rintro e w4 ⟨rfl, hb⟩
      refine ⟨_, rfl, ?_⟩
      subst hb
      refine hK.out _ _ HS (fun HS => ?_)
      clear hK K
      refine norm_ (a' := ?_) ?_ ?_; rotate_left
      · show Act.put _ (some 30) _ = _; simp only [Act.put, List.setIfInBounds_toArray, List.set_cons_zero, List.set_cons_succ, i64_w, i32_w]; rfl
      refine one_ (i := 4) (N := some 31) (bl_ 7 31) rfl rfl (one_of HT_.out (by kernel_rfl)) (by decide) (fun K hK => ?_)
      refine gs_ Try.func81 #[.string x.f5, .string s] ?_
      refine (HM.out O4.out w4).mono ?_
      rintro e w5 ⟨rfl, hb⟩
      refine ⟨_, rfl, ?_⟩
      obtain ⟨sB, sK⟩ := HS
      refine hK.out _ _ ⟨below_step sB hb, blk_below sK hb⟩ (fun HS => ?_)
      clear sB sK hb
      clear hK K
      refine norm_ (a' := ?_) ?_ ?_; rotate_left
      · show Act.put _ (some 31) _ = _; simp only [Act.put, List.setIfInBounds_toArray, List.set_cons_zero, List.set_cons_succ, i64_w, i32_w]; rfl
      refine one_ (i := 5) (N := some 32) (bl_ 7 63) rfl rfl (one_of HT_.out (by kernel_rfl)) (by decide) (fun K hK => ?_)
      refine gs_ Try.func61 #[.bool m] ?_
      refine (eval_truth.calls m _ w5 (truthI_f m)).mono ?_
      rintro e w6 ⟨rfl, hb⟩
      refine ⟨_, rfl, ?_⟩
      obtain ⟨sB, sK⟩ := HS
      refine hK.out _ _ ⟨below_step sB hb.below, blk_below sK hb.below⟩ (fun HS => ?_)
      clear sB sK hb
      clear hK K
      refine norm_ (a' := ?_) ?_ ?_; rotate_left
      · show Act.put _ (some 32) _ = _; simp only [Act.put, List.setIfInBounds_toArray, List.set_cons_zero, List.set_cons_succ, i64_w, i32_w]; rfl
      refine pu_ 6 (some 4) (bl_ 7 127) ?_
      refine done_ (done_of HT_.out (by kernel_rfl)) ?_
      go_wp2
      go_ret
      refine ⟨?_, HS.1⟩
      rw [leafE, if_neg (by have := O4.out; omega), if_neg O3.out, if_neg (by simp), if_pos O4.out]
      rfl
    · have o4b : (x.f0 == 4) = false := beq_eq_false_iff_ne.2 o4
      have O4 := Aside0.mk o4
      clear o4
      have O2 := Aside0.mk (show x.f0 = 2 by have := H24.out; have := O3.out; have := O4.out; omega)
      obtain ⟨v4, v3⟩ := HV.out O2.out
      have T85 : Aside0 (∀ W, Calls Try.prog 85 #[.int .i64 x.f4, .agg #[.bool x.f3.f0, .int .i64 x.f3.f1, .string x.f3.f2]] W fun e w' => e = .returned (toV ty false x.f3.f1 x.f3.f2) ∧ Below W.heap.size W w') := ⟨fun W => by rw [← v4, ← v3]; exact to85 _ _ _ _ W⟩
      clear v4 v3
      rcases hty with t | t | t
      · subst t
        simp only [toV, reduceCtorEq, if_false, if_true, Int.reduceEq] at T85 ⊢
        go_wp2_with fail
        refine start_ (n := 12) (S := (fun wX => Below w.heap.size w wX ∧ wX.heap[w.heap.size + 1]? = some (.cells #[.int .i64 x.f0, .string x.f1, .int .i64 x.f2, .bool x.f3.f0, .int .i64 x.f3.f1, .string x.f3.f2, .int .i64 x.f4, .string x.f5, .slice A8 x.f6.length c8] 27 (0, 0)))) (ds := []) #[false, false, false, false, false, false, false, false, false, false, false, false] (by kernel_rfl) rfl rfl ⟨below_drew1 HB.out, blk_drew BK.out⟩ (fun HS => ?_)
        refine with_tabW s62r10.tab s62r10.bits (fun HT_ HW_ => ?_)
        generalize w1.drew = w3 at HS ⊢
        clear HB BK hz0 hz1 hz2 hz3 hz4 hz5 hz6 hz7 hz8
        refine pu_ 0 (some 33) (bl_ 12 1) ?_
        refine pu_ 2 (some 35) (bl_ 12 5) ?_
        refine pu_ 3 (some 36) (bl_ 12 13) ?_
        refine pu_ 5 (some 38) (bl_ 12 45) ?_
        refine take_ (i := 1) (N := some 34) (v := ?_) (a' := ?_) (bl_ 12 47) rfl rfl (take_ofW HT_.out HW_.out (by kernel_rfl)) (fun _ _ _ h => h) (Or.inl ⟨by rfl, ?_⟩) HS ?_ ?_; rotate_left
        · rintro w' ⟨sB, sK⟩; obtain ⟨hz0, hz1, hz2, hz3, hz4, hz5, hz6, hz7, hz8⟩ := cz9_ sK; go_simp; with_reducible rfl
        rotate_left
        · simp only [Act.put, List.setIfInBounds_toArray, List.set_cons_zero, List.set_cons_succ, i64_w, i32_w]; rfl
        refine take_ (i := 4) (N := some 37) (v := ?_) (a' := ?_) (bl_ 12 63) rfl rfl (take_ofW HT_.out HW_.out (by kernel_rfl)) (fun _ _ _ h => h) (Or.inl ⟨by rfl, ?_⟩) HS ?_ ?_; rotate_left
        · rintro w' ⟨sB, sK⟩; obtain ⟨hz0, hz1, hz2, hz3, hz4, hz5, hz6, hz7, hz8⟩ := cz9_ sK; go_simp; with_reducible rfl
        rotate_left
        · simp only [Act.put, List.setIfInBounds_toArray, List.set_cons_zero, List.set_cons_succ, i64_w, i32_w]; rfl
        refine take_ (i := 6) (N := some 39) (v := ?_) (a' := ?_) (bl_ 12 127) rfl rfl (take_ofW HT_.out HW_.out (by kernel_rfl)) (fun _ _ _ h => h) (Or.inl ⟨by rfl, ?_⟩) HS ?_ ?_; rotate_left
        · rintro w' ⟨sB, sK⟩; obtain ⟨hz0, hz1, hz2, hz3, hz4, hz5, hz6, hz7, hz8⟩ := cz9_ sK; go_simp; with_reducible rfl
        rotate_left
        · simp only [Act.put, List.setIfInBounds_toArray, List.set_cons_zero, List.set_cons_succ, i64_w, i32_w]; rfl
        refine one_ (i := 7) (N := some 40) (bl_ 12 255) rfl rfl (one_of HT_.out (by kernel_rfl)) (by decide) (fun K hK => ?_)
        refine gs_ Try.func85 #[.int .i64 x.f4, .agg #[.bool x.f3.f0, .int .i64 x.f3.f1, .string x.f3.f2]] ?_
        refine (T85.out w3).mono ?_
        rintro e w4 ⟨rfl, hb⟩
        refine ⟨_, rfl, ?_⟩
        obtain ⟨sB, sK⟩ := HS
        refine hK.out _ _ ⟨below_step sB hb, blk_below sK hb⟩ (fun HS => ?_)
        clear sB sK hb
        clear hK K
        refine norm_ (a' := ?_) ?_ ?_; rotate_left
        · show Act.put _ (some 40) _ = _; simp only [Act.put, List.setIfInBounds_toArray, List.set_cons_zero, List.set_cons_succ, i64_w, i32_w]; rfl
        refine one_ (i := 8) (N := some 41) (bl_ 12 511) rfl rfl (one_of HT_.out (by kernel_rfl)) (by decide) (fun K hK => ?_)
        refine gs_ Try.func84 #[.iface 2 (.int .i64 i), .iface 2 (.int .i64 x.f3.f1)] ?_
        refine (order84 1 (by omega) i s x.f3.f1 x.f3.f2 w4).mono ?_
        rintro e w5 ⟨rfl, hb⟩
        refine ⟨_, rfl, ?_⟩
        obtain ⟨sB, sK⟩ := HS
        refine hK.out _ _ ⟨below_step sB hb, blk_below sK hb⟩ (fun HS => ?_)
        clear sB sK hb
        clear hK K
        refine norm_ (a' := ?_) ?_ ?_; rotate_left
        · show Act.put _ (some 41) _ = _; simp only [Act.put, List.setIfInBounds_toArray, List.set_cons_zero, List.set_cons_succ, i64_w, i32_w]; rfl
        refine one_ (i := 9) (N := some 42) (bl_ 12 1023) rfl rfl (one_of HT_.out (by kernel_rfl)) (by decide) (fun K hK => ?_)
        refine gs_ Try.func83 #[.int .i64 x.f2, .int .i64 (ordV 1 i s x.f3.f1 x.f3.f2)] ?_
        refine (eval_holds.calls x.f2 _ _ w5 (holdsB_f x.f2 _)).mono ?_
        rintro e w6 ⟨rfl, hb⟩
        refine ⟨_, rfl, ?_⟩
        obtain ⟨sB, sK⟩ := HS
        refine hK.out _ _ ⟨below_step sB hb.below, blk_below sK hb.below⟩ (fun HS => ?_)
        clear sB sK hb
        clear hK K
        refine norm_ (a' := ?_) ?_ ?_; rotate_left
        · show Act.put _ (some 42) _ = _; simp only [Act.put, List.setIfInBounds_toArray, List.set_cons_zero, List.set_cons_succ, i64_w, i32_w]; rfl
        refine one_ (i := 10) (N := some 43) (bl_ 12 2047) rfl rfl (one_of HT_.out (by kernel_rfl)) (by decide) (fun K hK => ?_)
        refine gs_ Try.func61 #[.bool (holdsB x.f2 (ordV 1 i s x.f3.f1 x.f3.f2))] ?_
        refine (eval_truth.calls _ _ w6 (truthI_f _)).mono ?_
        rintro e w7 ⟨rfl, hb⟩
        refine ⟨_, rfl, ?_⟩
        obtain ⟨sB, sK⟩ := HS
        refine hK.out _ _ ⟨below_step sB hb.below, blk_below sK hb.below⟩ (fun HS => ?_)
        clear sB sK hb
        clear hK K
        refine norm_ (a' := ?_) ?_ ?_; rotate_left
        · show Act.put _ (some 43) _ = _; simp only [Act.put, List.setIfInBounds_toArray, List.set_cons_zero, List.set_cons_succ, i64_w, i32_w]; rfl
        refine pu_ 11 (some 4) (bl_ 12 4095) ?_
        refine done_ (done_of HT_.out (by kernel_rfl)) ?_
        go_wp2
        go_ret
        refine ⟨?_, HS.1⟩
        rw [leafE, if_neg (by have := O2.out; omega), if_neg O3.out, if_neg (by simp), if_neg O4.out]
        rfl
      · subst t
        simp only [toV, reduceCtorEq, if_false, if_true, Int.reduceEq] at T85 ⊢
        go_wp2_with fail
        refine start_ (n := 12) (S := (fun wX => Below w.heap.size w wX ∧ wX.heap[w.heap.size + 1]? = some (.cells #[.int .i64 x.f0, .string x.f1, .int .i64 x.f2, .bool x.f3.f0, .int .i64 x.f3.f1, .string x.f3.f2, .int .i64 x.f4, .string x.f5, .slice A8 x.f6.length c8] 27 (0, 0)))) (ds := []) #[false, false, false, false, false, false, false, false, false, false, false, false] (by kernel_rfl) rfl rfl ⟨below_drew1 HB.out, blk_drew BK.out⟩ (fun HS => ?_)
        refine with_tabW s62r10.tab s62r10.bits (fun HT_ HW_ => ?_)
        generalize w1.drew = w3 at HS ⊢
        clear HB BK hz0 hz1 hz2 hz3 hz4 hz5 hz6 hz7 hz8
        refine pu_ 0 (some 33) (bl_ 12 1) ?_
        refine pu_ 2 (some 35) (bl_ 12 5) ?_
        refine pu_ 3 (some 36) (bl_ 12 13) ?_
        refine pu_ 5 (some 38) (bl_ 12 45) ?_
        refine take_ (i := 1) (N := some 34) (v := ?_) (a' := ?_) (bl_ 12 47) rfl rfl (take_ofW HT_.out HW_.out (by kernel_rfl)) (fun _ _ _ h => h) (Or.inl ⟨by rfl, ?_⟩) HS ?_ ?_; rotate_left
        · rintro w' ⟨sB, sK⟩; obtain ⟨hz0, hz1, hz2, hz3, hz4, hz5, hz6, hz7, hz8⟩ := cz9_ sK; go_simp; with_reducible rfl
        rotate_left
        · simp only [Act.put, List.setIfInBounds_toArray, List.set_cons_zero, List.set_cons_succ, i64_w, i32_w]; rfl
        refine take_ (i := 4) (N := some 37) (v := ?_) (a' := ?_) (bl_ 12 63) rfl rfl (take_ofW HT_.out HW_.out (by kernel_rfl)) (fun _ _ _ h => h) (Or.inl ⟨by rfl, ?_⟩) HS ?_ ?_; rotate_left
        · rintro w' ⟨sB, sK⟩; obtain ⟨hz0, hz1, hz2, hz3, hz4, hz5, hz6, hz7, hz8⟩ := cz9_ sK; go_simp; with_reducible rfl
        rotate_left
        · simp only [Act.put, List.setIfInBounds_toArray, List.set_cons_zero, List.set_cons_succ, i64_w, i32_w]; rfl
        refine take_ (i := 6) (N := some 39) (v := ?_) (a' := ?_) (bl_ 12 127) rfl rfl (take_ofW HT_.out HW_.out (by kernel_rfl)) (fun _ _ _ h => h) (Or.inl ⟨by rfl, ?_⟩) HS ?_ ?_; rotate_left
        · rintro w' ⟨sB, sK⟩; obtain ⟨hz0, hz1, hz2, hz3, hz4, hz5, hz6, hz7, hz8⟩ := cz9_ sK; go_simp; with_reducible rfl
        rotate_left
        · simp only [Act.put, List.setIfInBounds_toArray, List.set_cons_zero, List.set_cons_succ, i64_w, i32_w]; rfl
        refine one_ (i := 7) (N := some 40) (bl_ 12 255) rfl rfl (one_of HT_.out (by kernel_rfl)) (by decide) (fun K hK => ?_)
        refine gs_ Try.func85 #[.int .i64 x.f4, .agg #[.bool x.f3.f0, .int .i64 x.f3.f1, .string x.f3.f2]] ?_
        refine (T85.out w3).mono ?_
        rintro e w4 ⟨rfl, hb⟩
        refine ⟨_, rfl, ?_⟩
        obtain ⟨sB, sK⟩ := HS
        refine hK.out _ _ ⟨below_step sB hb, blk_below sK hb⟩ (fun HS => ?_)
        clear sB sK hb
        clear hK K
        refine norm_ (a' := ?_) ?_ ?_; rotate_left
        · show Act.put _ (some 40) _ = _; simp only [Act.put, List.setIfInBounds_toArray, List.set_cons_zero, List.set_cons_succ, i64_w, i32_w]; rfl
        refine one_ (i := 8) (N := some 41) (bl_ 12 511) rfl rfl (one_of HT_.out (by kernel_rfl)) (by decide) (fun K hK => ?_)
        refine gs_ Try.func84 #[.iface 4 (.bool (i != 0)), .iface 4 (.bool (x.f3.f1 != 0))] ?_
        refine (order84 2 (by omega) i s x.f3.f1 x.f3.f2 w4).mono ?_
        rintro e w5 ⟨rfl, hb⟩
        refine ⟨_, rfl, ?_⟩
        obtain ⟨sB, sK⟩ := HS
        refine hK.out _ _ ⟨below_step sB hb, blk_below sK hb⟩ (fun HS => ?_)
        clear sB sK hb
        clear hK K
        refine norm_ (a' := ?_) ?_ ?_; rotate_left
        · show Act.put _ (some 41) _ = _; simp only [Act.put, List.setIfInBounds_toArray, List.set_cons_zero, List.set_cons_succ, i64_w, i32_w]; rfl
        refine one_ (i := 9) (N := some 42) (bl_ 12 1023) rfl rfl (one_of HT_.out (by kernel_rfl)) (by decide) (fun K hK => ?_)
        refine gs_ Try.func83 #[.int .i64 x.f2, .int .i64 (ordV 2 i s x.f3.f1 x.f3.f2)] ?_
        refine (eval_holds.calls x.f2 _ _ w5 (holdsB_f x.f2 _)).mono ?_
        rintro e w6 ⟨rfl, hb⟩
        refine ⟨_, rfl, ?_⟩
        obtain ⟨sB, sK⟩ := HS
        refine hK.out _ _ ⟨below_step sB hb.below, blk_below sK hb.below⟩ (fun HS => ?_)
        clear sB sK hb
        clear hK K
        refine norm_ (a' := ?_) ?_ ?_; rotate_left
        · show Act.put _ (some 42) _ = _; simp only [Act.put, List.setIfInBounds_toArray, List.set_cons_zero, List.set_cons_succ, i64_w, i32_w]; rfl
        refine one_ (i := 10) (N := some 43) (bl_ 12 2047) rfl rfl (one_of HT_.out (by kernel_rfl)) (by decide) (fun K hK => ?_)
        refine gs_ Try.func61 #[.bool (holdsB x.f2 (ordV 2 i s x.f3.f1 x.f3.f2))] ?_
        refine (eval_truth.calls _ _ w6 (truthI_f _)).mono ?_
        rintro e w7 ⟨rfl, hb⟩
        refine ⟨_, rfl, ?_⟩
        obtain ⟨sB, sK⟩ := HS
        refine hK.out _ _ ⟨below_step sB hb.below, blk_below sK hb.below⟩ (fun HS => ?_)
        clear sB sK hb
        clear hK K
        refine norm_ (a' := ?_) ?_ ?_; rotate_left
        · show Act.put _ (some 43) _ = _; simp only [Act.put, List.setIfInBounds_toArray, List.set_cons_zero, List.set_cons_succ, i64_w, i32_w]; rfl
        refine pu_ 11 (some 4) (bl_ 12 4095) ?_
        refine done_ (done_of HT_.out (by kernel_rfl)) ?_
        go_wp2
        go_ret
        refine ⟨?_, HS.1⟩
        rw [leafE, if_neg (by have := O2.out; omega), if_neg O3.out, if_neg (by simp), if_neg O4.out]
        rfl
      · subst t
        simp only [toV, reduceCtorEq, if_false, if_true, Int.reduceEq] at T85 ⊢
        go_wp2_with fail
        refine start_ (n := 12) (S := (fun wX => Below w.heap.size w wX ∧ wX.heap[w.heap.size + 1]? = some (.cells #[.int .i64 x.f0, .string x.f1, .int .i64 x.f2, .bool x.f3.f0, .int .i64 x.f3.f1, .string x.f3.f2, .int .i64 x.f4, .string x.f5, .slice A8 x.f6.length c8] 27 (0, 0)))) (ds := []) #[false, false, false, false, false, false, false, false, false, false, false, false] (by kernel_rfl) rfl rfl ⟨below_drew1 HB.out, blk_drew BK.out⟩ (fun HS => ?_)
        refine with_tabW s62r10.tab s62r10.bits (fun HT_ HW_ => ?_)
        generalize w1.drew = w3 at HS ⊢
        clear HB BK hz0 hz1 hz2 hz3 hz4 hz5 hz6 hz7 hz8
        refine pu_ 0 (some 33) (bl_ 12 1) ?_
        refine pu_ 2 (some 35) (bl_ 12 5) ?_
        refine pu_ 3 (some 36) (bl_ 12 13) ?_
        refine pu_ 5 (some 38) (bl_ 12 45) ?_
        refine take_ (i := 1) (N := some 34) (v := ?_) (a' := ?_) (bl_ 12 47) rfl rfl (take_ofW HT_.out HW_.out (by kernel_rfl)) (fun _ _ _ h => h) (Or.inl ⟨by rfl, ?_⟩) HS ?_ ?_; rotate_left
        · rintro w' ⟨sB, sK⟩; obtain ⟨hz0, hz1, hz2, hz3, hz4, hz5, hz6, hz7, hz8⟩ := cz9_ sK; go_simp; with_reducible rfl
        rotate_left
        · simp only [Act.put, List.setIfInBounds_toArray, List.set_cons_zero, List.set_cons_succ, i64_w, i32_w]; rfl
        refine take_ (i := 4) (N := some 37) (v := ?_) (a' := ?_) (bl_ 12 63) rfl rfl (take_ofW HT_.out HW_.out (by kernel_rfl)) (fun _ _ _ h => h) (Or.inl ⟨by rfl, ?_⟩) HS ?_ ?_; rotate_left
        · rintro w' ⟨sB, sK⟩; obtain ⟨hz0, hz1, hz2, hz3, hz4, hz5, hz6, hz7, hz8⟩ := cz9_ sK; go_simp; with_reducible rfl
        rotate_left
        · simp only [Act.put, List.setIfInBounds_toArray, List.set_cons_zero, List.set_cons_succ, i64_w, i32_w]; rfl
        refine take_ (i := 6) (N := some 39) (v := ?_) (a' := ?_) (bl_ 12 127) rfl rfl (take_ofW HT_.out HW_.out (by kernel_rfl)) (fun _ _ _ h => h) (Or.inl ⟨by rfl, ?_⟩) HS ?_ ?_; rotate_left
        · rintro w' ⟨sB, sK⟩; obtain ⟨hz0, hz1, hz2, hz3, hz4, hz5, hz6, hz7, hz8⟩ := cz9_ sK; go_simp; with_reducible rfl
        rotate_left
        · simp only [Act.put, List.setIfInBounds_toArray, List.set_cons_zero, List.set_cons_succ, i64_w, i32_w]; rfl
        refine one_ (i := 7) (N := some 40) (bl_ 12 255) rfl rfl (one_of HT_.out (by kernel_rfl)) (by decide) (fun K hK => ?_)
        refine gs_ Try.func85 #[.int .i64 x.f4, .agg #[.bool x.f3.f0, .int .i64 x.f3.f1, .string x.f3.f2]] ?_
        refine (T85.out w3).mono ?_
        rintro e w4 ⟨rfl, hb⟩
        refine ⟨_, rfl, ?_⟩
        obtain ⟨sB, sK⟩ := HS
        refine hK.out _ _ ⟨below_step sB hb, blk_below sK hb⟩ (fun HS => ?_)
        clear sB sK hb
        clear hK K
        refine norm_ (a' := ?_) ?_ ?_; rotate_left
        · show Act.put _ (some 40) _ = _; simp only [Act.put, List.setIfInBounds_toArray, List.set_cons_zero, List.set_cons_succ, i64_w, i32_w]; rfl
        refine one_ (i := 8) (N := some 41) (bl_ 12 511) rfl rfl (one_of HT_.out (by kernel_rfl)) (by decide) (fun K hK => ?_)
        refine gs_ Try.func84 #[.iface 9 (.string s), .iface 9 (.string x.f3.f2)] ?_
        refine (order84 3 (by omega) i s x.f3.f1 x.f3.f2 w4).mono ?_
        rintro e w5 ⟨rfl, hb⟩
        refine ⟨_, rfl, ?_⟩
        obtain ⟨sB, sK⟩ := HS
        refine hK.out _ _ ⟨below_step sB hb, blk_below sK hb⟩ (fun HS => ?_)
        clear sB sK hb
        clear hK K
        refine norm_ (a' := ?_) ?_ ?_; rotate_left
        · show Act.put _ (some 41) _ = _; simp only [Act.put, List.setIfInBounds_toArray, List.set_cons_zero, List.set_cons_succ, i64_w, i32_w]; rfl
        refine one_ (i := 9) (N := some 42) (bl_ 12 1023) rfl rfl (one_of HT_.out (by kernel_rfl)) (by decide) (fun K hK => ?_)
        refine gs_ Try.func83 #[.int .i64 x.f2, .int .i64 (ordV 3 i s x.f3.f1 x.f3.f2)] ?_
        refine (eval_holds.calls x.f2 _ _ w5 (holdsB_f x.f2 _)).mono ?_
        rintro e w6 ⟨rfl, hb⟩
        refine ⟨_, rfl, ?_⟩
        obtain ⟨sB, sK⟩ := HS
        refine hK.out _ _ ⟨below_step sB hb.below, blk_below sK hb.below⟩ (fun HS => ?_)
        clear sB sK hb
        clear hK K
        refine norm_ (a' := ?_) ?_ ?_; rotate_left
        · show Act.put _ (some 42) _ = _; simp only [Act.put, List.setIfInBounds_toArray, List.set_cons_zero, List.set_cons_succ, i64_w, i32_w]; rfl
        refine one_ (i := 10) (N := some 43) (bl_ 12 2047) rfl rfl (one_of HT_.out (by kernel_rfl)) (by decide) (fun K hK => ?_)
        refine gs_ Try.func61 #[.bool (holdsB x.f2 (ordV 3 i s x.f3.f1 x.f3.f2))] ?_
        refine (eval_truth.calls _ _ w6 (truthI_f _)).mono ?_
        rintro e w7 ⟨rfl, hb⟩
        refine ⟨_, rfl, ?_⟩
        obtain ⟨sB, sK⟩ := HS
        refine hK.out _ _ ⟨below_step sB hb.below, blk_below sK hb.below⟩ (fun HS => ?_)
        clear sB sK hb
        clear hK K
        refine norm_ (a' := ?_) ?_ ?_; rotate_left
        · show Act.put _ (some 43) _ = _; simp only [Act.put, List.setIfInBounds_toArray, List.set_cons_zero, List.set_cons_succ, i64_w, i32_w]; rfl
        refine pu_ 11 (some 4) (bl_ 12 4095) ?_
        refine done_ (done_of HT_.out (by kernel_rfl)) ?_
        go_wp2
        go_ret
        refine ⟨?_, HS.1⟩
        rw [leafE, if_neg (by have := O2.out; omega), if_neg O3.out, if_neg (by simp), if_neg O4.out]
        rfl
end Go.Proofs.Ytdedmhmomoejkaa.X
namespace Go.Proofs.Ytdedmhmomoejkaa.X
open Go.RowKit Go.Proofs.YtdedmhmomoejkaaW.PrintWords Go.Proofs.YtdedmhmomoejkaaW.PrintLast Go.Proofs.YtdedmhmomoejkaaW.PrintMore
set_option linter.unusedVariables false
set_option linter.unusedSimpArgs false
def colI (l0 : List S64) (x : S27) : Int := idxOf (fun y : S64 => y.f0.toList == x.f1.toList) l0
def simpOk (l0 : List S64) (l1 : List S24) (x : S27) : Bool :=
  decide ((0 ≤ colI l0 x ∧ colI l0 x < l1.length) ∧ ((rd_T64 l0 (colI l0 x)).f1 = 1 ∨ (rd_T64 l0 (colI l0 x)).f1 = 2 ∨ (rd_T64 l0 (colI l0 x)).f1 = 3) ∧ (x.f0 = 2 ∨ x.f0 = 3 ∨ x.f0 = 4)
    ∧ (x.f0 = 2 → x.f4 = (rd_T64 l0 (colI l0 x)).f1 ∧ x.f3.f0 = false) ∧ (x.f0 = 4 → (rd_T64 l0 (colI l0 x)).f1 = 3 ∧ x.f5.size ≤ 4398046511104 ∧ (rd_T24 l1 (colI l0 x)).f2.size ≤ 4398046511104))
def simpV (l0 : List S64) (l1 : List S24) (x : S27) : Int := leafE (rd_T64 l0 (colI l0 x)).f1 (rd_T24 l1 (colI l0 x)) x (globM x.f5 (rd_T24 l1 (colI l0 x)).f2)
def simpF (l0 : List S64) (l1 : List S24) (x : S27) : Option Int := if x.f0 = 1 then some 1 else if simpOk l0 l1 x = true then some (simpV l0 l1 x) else none
set_option maxHeartbeats 4000000 in
set_option maxRecDepth 100000 in
theorem simpleE (A0 : Option Addr) (c0 : Nat) (l0 : List S64) (A1 : Option Addr) (c1 : Nat) (l1 : List S24) (x : S27) (A8 : Option Addr) (c8 : Nat) (r : Int) (w : World) (hr0 : Kd.C k64 w A0 l0.length l0) (hc0 : l0.length ≤ c0) (hr1 : Kd.C k24 w A1 l1.length l1) (hc1 : l1.length ≤ c1) (hr8 : Kd.C k27 w A8 x.f6.length x.f6) (hc8 : x.f6.length ≤ c8)
    (h : simpF l0 l1 x = some r) :
    Calls Try.prog 62 #[.agg #[.slice A0 l0.length c0, .slice A1 l1.length c1], .agg #[.int .i64 x.f0, .string x.f1, .int .i64 x.f2, .bool x.f3.f0, .int .i64 x.f3.f1, .string x.f3.f2, .int .i64 x.f4, .string x.f5, .slice A8 x.f6.length c8]] w fun e w' => e = .returned (.int .i64 r) ∧ Below w.heap.size w w' := by
  unfold simpF at h
  by_cases h1 : x.f0 = 1
  · rw [if_pos h1] at h
    obtain rfl := Option.some.inj h
    have h1b : (x.f0 == 1) = true := beq_iff_eq.2 h1
    have hu27 := Try.underlying27
    have hu81 := Try.underlying81
    clear h1 hr0 hc0 hr1 hc1 hr8 hc8
    go_enter Try.func62, Try.ntmps62
    go_wp2
    go_ret
    refine ⟨rfl, ?_⟩
    repeat (first | exact Below.refl _ _ | apply below_alloc)
  · rw [if_neg h1] at h
    by_cases h2 : simpOk l0 l1 x = true
    · rw [if_pos h2] at h
      obtain rfl := Option.some.inj h
      have h3 := of_decide_eq_true h2
      obtain ⟨⟨q0, q1⟩, ht, hk, hv, hg⟩ := h3
      exact simple62 A0 c0 l0 A1 c1 l1 x A8 c8 w hr0 hc0 hr1 hc1 hr8 hc8 (colI l0 x) rfl q0 (idxOf_lt _ l0) q1 h1 ht (fun h => (hg h).1) hk hv _ (fun h W => glob_match _ _ (hg h).2.1 (hg h).2.2 W)
    · rw [if_neg h2] at h
      exact absurd h (by simp)
end Go.Proofs.Ytdedmhmomoejkaa.X
namespace Go.Proofs.Ytdedmhmomoejkaa.X
open Go.RowKit Go.Proofs.YtdedmhmomoejkaaW.PrintWords Go.Proofs.YtdedmhmomoejkaaW.PrintLast Go.Proofs.YtdedmhmomoejkaaW.PrintMore
attribute [local go_sem] max2_int max_two
set_option linter.unusedVariables false
set_option linter.unusedSimpArgs false
def eval_asker_simple.f (l0_0 : List S64) (l0_1 : List S24) (a1_0 : Int) (a1_1 : ByteArray) (a1_2 : Int) (a1_3 : Bool) (a1_4 : Int) (a1_5 : ByteArray) (a1_6 : Int) (a1_7 : ByteArray) (l1_8 : List S27) : Option Int :=
  simpF l0_0 l0_1 ⟨a1_0, a1_1, a1_2, ⟨a1_3, a1_4, a1_5⟩, a1_6, a1_7, l1_8⟩
set_option maxHeartbeats 8000000 in
set_option maxRecDepth 100000 in
theorem eval_asker_simple.calls (A0_0 : Option Addr) (c0_0 : Nat) (l0_0 : List (S64)) (A0_1 : Option Addr) (c0_1 : Nat) (l0_1 : List (S24)) (a1_0 : Int) (a1_1 : ByteArray) (a1_2 : Int) (a1_3 : Bool) (a1_4 : Int) (a1_5 : ByteArray) (a1_6 : Int) (a1_7 : ByteArray) (A1_8 : Option Addr) (c1_8 : Nat) (l1_8 : List (S27)) (r : Int) (w : World) (hr0_0 : Kd.C k64 w A0_0 l0_0.length l0_0) (hc0_0 : l0_0.length ≤ c0_0) (hr0_1 : Kd.C k24 w A0_1 l0_1.length l0_1) (hc0_1 : l0_1.length ≤ c0_1) (hr1_8 : Kd.C k27 w A1_8 l1_8.length l1_8) (hc1_8 : l1_8.length ≤ c1_8) (h : eval_asker_simple.f l0_0 l0_1 a1_0 a1_1 a1_2 a1_3 a1_4 a1_5 a1_6 a1_7 l1_8 = some r) :
    Calls Try.prog 62 #[.agg #[.slice A0_0 l0_0.length c0_0, .slice A0_1 l0_1.length c0_1], .agg #[.int .i64 a1_0, .string a1_1, .int .i64 a1_2, .bool a1_3, .int .i64 a1_4, .string a1_5, .int .i64 a1_6, .string a1_7, .slice A1_8 l1_8.length c1_8]] w fun e w' => e = .returned (.int .i64 r) ∧ Below w.heap.size w w' := by
  exact simpleE A0_0 c0_0 l0_0 A0_1 c0_1 l0_1 ⟨a1_0, a1_1, a1_2, ⟨a1_3, a1_4, a1_5⟩, a1_6, a1_7, l1_8⟩ A1_8 c1_8 r w hr0_0 hc0_0 hr0_1 hc0_1 hr1_8 hc1_8 h
end Go.Proofs.Ytdedmhmomoejkaa.X
