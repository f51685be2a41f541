/- Words and walks for pruneAsks_holds, part 8 of the texts that a program of this session laid together. -/
import Derived.Test.YtdedmhmomoejkaaR1
import Derived.Test.YtdedmhmomoejkaaR7
namespace Go.Proofs.Ytdedmhmomoejkaa.X
open Go.RowKit Go.Proofs.YtdedmhmomoejkaaW.PrintWords Go.Proofs.YtdedmhmomoejkaaW.PrintLast Go.Proofs.YtdedmhmomoejkaaW.PrintMore
attribute [local go_sem] max2_int max_two
set_option linter.unusedVariables false
set_option linter.unusedSimpArgs false
def firkinref09_May.j0 : Nat → Int → Bool → Bool → Bool → Int → ByteArray → Option (Bool)
 | 0, _, _, _, _, _, _ => none
 | k + 1, x0, x1, x12, x256000, x256001, x256002 => if x12 = true then (some false) else (if x256000 = true then (if x1 = true then (if x256001 = 0 then (some (x256002.toList == ([] : List UInt8))) else (some false)) else (some false)) else (if x0 = 3 then (if x256001 = 0 then (some (decide ((x256002.size : Int) ≤ 40))) else (some false)) else (if x256002.toList = ([] : List UInt8) then (if x0 = 1 then (some true) else (if x256001 = 0 then (some true) else (some (x256001 == 1)))) else (some false))))
def firkinref09_May.f (k : Nat) (a0 : Int) (a1 : Bool) (a2_0 : Bool) (a2_1 : Int) (a2_2 : ByteArray) : Option (Bool) := if a0 < 1 then (firkinref09_May.j0 k a0 a1 true a2_0 a2_1 a2_2) else (firkinref09_May.j0 k a0 a1 (decide (a0 > 3)) a2_0 a2_1 a2_2)
theorem firkinref09_May.mono_l : ∀ k, (∀ y0 y1 y2 y3 y4 y5, LeO (firkinref09_May.j0 k y0 y1 y2 y3 y4 y5) (firkinref09_May.j0 (k + 1) y0 y1 y2 y3 y4 y5))
 | 0 => fun _ _ _ _ _ _ r h => by simp [firkinref09_May.j0] at h
 | k + 1 => by
  have ih0 := firkinref09_May.mono_l k
  ·intro y0 y1 y2 y3 y4 y5
   unfold firkinref09_May.j0
   repeat' first
   | (with_reducible exact ih0 _ _ _ _ _ _)
   | (with_reducible exact LeO.refl _)
   | (with_reducible exact LeO.none _)
   | (with_reducible refine LeO.ite ?_ ?_)
   | (with_reducible refine LeO.bind ?_ (fun _ => ?_))
   | exact ih0 _ _ _ _ _ _
   | exact LeO.none _
   | refine LeO.ite ?_ ?_
   | refine LeO.bind ?_ (fun _ => ?_)
theorem firkinref09_May.mono : ∀ a0 a1 a2 a3 a4 k, LeO (firkinref09_May.f k a0 a1 a2 a3 a4) (firkinref09_May.f (k + 1) a0 a1 a2 a3 a4) := by
 intro a0 a1 a2 a3 a4 k
 have ih0 := firkinref09_May.mono_l k
 unfold firkinref09_May.f
 repeat' first
   | (with_reducible exact ih0 _ _ _ _ _ _)
   | (with_reducible exact LeO.refl _)
   | (with_reducible exact LeO.none _)
   | (with_reducible refine LeO.ite ?_ ?_)
   | (with_reducible refine LeO.bind ?_ (fun _ => ?_))
   | exact ih0 _ _ _ _ _ _
   | exact LeO.none _
   | refine LeO.ite ?_ ?_
   | refine LeO.bind ?_ (fun _ => ?_)
set_option maxHeartbeats 8000000 in
set_option maxRecDepth 100000 in
theorem firkinref09_May.calls (k : Nat) (a0 : Int) (a1 : Bool) (a2_0 : Bool) (a2_1 : Int) (a2_2 : ByteArray) (r : Bool) (w : World) (h : firkinref09_May.f k a0 a1 a2_0 a2_1 a2_2 = some r) :
  Calls Try.prog 57 #[.int .i64 a0, .bool a1, .agg #[.bool a2_0, .int .i64 a2_1, .string a2_2]] w fun e w' => e = .returned (.bool r) ∧ Below w.heap.size w w' := by
 have hu24 := Try.underlying24
 have HB := Aside0.mk (Below.refl w.heap.size w)
 have H : (if a0 < 1 then (firkinref09_May.j0 k a0 a1 true a2_0 a2_1 a2_2) else (firkinref09_May.j0 k a0 a1 (decide (a0 > 3)) a2_0 a2_1 a2_2)) = some r := h
 clear h
 have HC4 := Aside0.mk H
 clear H
 go_enter Try.func57, Try.ntmps57
 go_upto_region 1 with (first | ((with_reducible refine gate_dst (N := 5) rfl ?_); (try (refine gate_guard (by rfl) ?_; dsimp only)); refine bx_ (N := 5) (cs := #[.bool a2_0, .int .i64 a2_1, .string a2_2]) (t := 24) ?_; intro gb255 hg w5 hbox hb; have BK255 := Aside0.mk (hbox); have GW255 := ge_ HB hg; have GE255 := ge_ HB hg; replace HB := bs_ HB hb; clear hb hbox hg))
 (try simp only [Act.put, List.setIfInBounds_toArray, List.set_cons_zero, List.set_cons_succ])
 go_cut [12] (fun v12 wc => ∃ (kq : Nat) (x12_3 : Bool), v12 = .bool x12_3 ∧ Aside0 (firkinref09_May.j0 kq a0 a1 x12_3 a2_0 a2_1 a2_2 = some r) ∧ Aside0 (kq ≤ k) ∧ Aside0 (wc.heap[gb255]? = some (.cells #[.bool a2_0, .int .i64 a2_1, .string a2_2] 24 (0, 0))) ∧ Aside0 (Below w.heap.size w wc))
 case first =>
  have H := HC4.out
  clear HC4
  by_cases c6 : a0 < 1
  ·rw [if_pos c6] at H
   have c6b0 : decide (a0 < 1) = true := decide_eq_true c6
   clear c6
   (first | rw [c6b0] | (simp only [i64_w, i32_w]; rw [c6b0]) | skip)
   have H' := Aside0.mk H
   clear H
   go_wp2
   go_meet
   case rel => exact ⟨_, (true), (by first | rfl | (simp; done) | (simp [*]; done)), H', ⟨by first | omega | exact Nat.le_refl _⟩, ⟨by (with_reducible repeat (first | refine blk_drewN ?_ _ | refine blk_drew ?_ | refine blk_alloc ?_ _)); exact BK255.out⟩, ⟨by repeat (first | (with_reducible first | exact HB.out | apply below_alloc | apply pw_below_drewN | apply below_drew1 | refine below_set ?_ GE255.out) | exact HB.out)⟩⟩
  ·rw [if_neg c6] at H
   have c6b0 : decide (a0 < 1) = false := decide_eq_false c6
   clear c6
   (first | rw [c6b0] | (simp only [i64_w, i32_w]; rw [c6b0]) | skip)
   have H' := Aside0.mk H
   clear H
   go_wp2
   go_meet
   case rel => exact ⟨_, (decide (a0 > 3)), (by first | rfl | (simp; done) | (simp [*]; done)), H', ⟨by first | omega | exact Nat.le_refl _⟩, ⟨by (with_reducible repeat (first | refine blk_drewN ?_ _ | refine blk_drew ?_ | refine blk_alloc ?_ _)); exact BK255.out⟩, ⟨by repeat (first | (with_reducible first | exact HB.out | apply below_alloc | apply pw_below_drewN | apply below_drew1 | refine below_set ?_ GE255.out) | exact HB.out)⟩⟩
 case rest =>
  clear HC4
  try clear p2
  try clear c5
  try clear c6
  try clear c6b0
  obtain ⟨kq, x12_3, rfl, HA, HJ3, BK255, HB⟩ := hcut
  cases kq with
  | zero => exact absurd HA.out (by simp [firkinref09_May.j0])
  | succ kj3 =>
   have H := HA.out
   clear HA
   simp only [firkinref09_May.j0] at H
   by_cases c7 : x12_3 = true
   ·subst c7
    have H1 : (some false) = some r := by rw [if_pos rfl] at H; exact H
    clear H
    have H := H1
    clear H1
    obtain rfl := Option.some.inj H
    go_wp2
    go_ret
    exact en_ HB
   ·replace c7 := Bool.eq_false_iff.mpr c7
    subst c7
    have H1 : (if a2_0 = true then (if a1 = true then (if a2_1 = 0 then (some (a2_2.toList == ([] : List UInt8))) else (some false)) else (some false)) else (if a0 = 3 then (if a2_1 = 0 then (some (decide ((a2_2.size : Int) ≤ 40))) else (some false)) else (if a2_2.toList = ([] : List UInt8) then (if a0 = 1 then (some true) else (if a2_1 = 0 then (some true) else (some (a2_1 == 1)))) else (some false)))) = some r := by rw [if_neg (show ¬ (false = true) by decide)] at H; exact H
    clear H
    have H := H1
    clear H1
    by_cases c8 : a2_0 = true
    ·subst c8
     have H1 : (if a1 = true then (if a2_1 = 0 then (some (a2_2.toList == ([] : List UInt8))) else (some false)) else (some false)) = some r := by rw [if_pos rfl] at H; exact H
     clear H
     have H := H1
     clear H1
     by_cases c9 : a1 = true
     ·subst c9
      have H1 : (if a2_1 = 0 then (some (a2_2.toList == ([] : List UInt8))) else (some false)) = some r := by rw [if_pos rfl] at H; exact H
      clear H
      have H := H1
      clear H1
      by_cases c10 : a2_1 = 0
      ·rw [if_pos c10] at H
       have c10b0 : (a2_1 == 0) = true := beq_iff_eq.mpr c10
       have c10b1 : (a2_1 != 0) = false := bne_eq_false_iff_eq.mpr c10
       clear c10
       obtain rfl := Option.some.inj H
       obtain ⟨C11_0, C11_1, C11_2⟩ := cz3_ BK255.out
       obtain ⟨F11_0, F11_1, F11_2⟩ := fz3_ BK255.out
       go_wp2
       go_ret
       exact en_ HB
      ·rw [if_neg c10] at H
       have c10b0 : (a2_1 == 0) = false := beq_eq_false_iff_ne.mpr c10
       have c10b1 : (a2_1 != 0) = true := bne_iff_ne.mpr c10
       obtain rfl := Option.some.inj H
       obtain ⟨C12_0, C12_1, C12_2⟩ := cz3_ BK255.out
       obtain ⟨F12_0, F12_1, F12_2⟩ := fz3_ BK255.out
       go_wp2
       go_ret
       exact en_ HB
     ·replace c9 := Bool.eq_false_iff.mpr c9
      subst c9
      have H1 : (some false) = some r := by rw [if_neg (show ¬ (false = true) by decide)] at H; exact H
      clear H
      have H := H1
      clear H1
      obtain rfl := Option.some.inj H
      obtain ⟨C13_0, C13_1, C13_2⟩ := cz3_ BK255.out
      obtain ⟨F13_0, F13_1, F13_2⟩ := fz3_ BK255.out
      go_wp2
      go_ret
      exact en_ HB
    ·replace c8 := Bool.eq_false_iff.mpr c8
     subst c8
     have H1 : (if a0 = 3 then (if a2_1 = 0 then (some (decide ((a2_2.size : Int) ≤ 40))) else (some false)) else (if a2_2.toList = ([] : List UInt8) then (if a0 = 1 then (some true) else (if a2_1 = 0 then (some true) else (some (a2_1 == 1)))) else (some false))) = some r := by rw [if_neg (show ¬ (false = true) by decide)] at H; exact H
     clear H
     have H := H1
     clear H1
     by_cases c14 : a0 = 3
     ·rw [if_pos c14] at H
      have c14b0 : (a0 == 3) = true := beq_iff_eq.mpr c14
      have c14b1 : (a0 != 3) = false := bne_eq_false_iff_eq.mpr c14
      clear c14
      by_cases c15 : a2_1 = 0
      ·rw [if_pos c15] at H
       have c15b0 : (a2_1 == 0) = true := beq_iff_eq.mpr c15
       have c15b1 : (a2_1 != 0) = false := bne_eq_false_iff_eq.mpr c15
       clear c15
       obtain rfl := Option.some.inj H
       obtain ⟨C16_0, C16_1, C16_2⟩ := cz3_ BK255.out
       obtain ⟨F16_0, F16_1, F16_2⟩ := fz3_ BK255.out
       go_wp2
       go_ret
       exact en_ HB
      ·rw [if_neg c15] at H
       have c15b0 : (a2_1 == 0) = false := beq_eq_false_iff_ne.mpr c15
       have c15b1 : (a2_1 != 0) = true := bne_iff_ne.mpr c15
       obtain rfl := Option.some.inj H
       obtain ⟨C17_0, C17_1, C17_2⟩ := cz3_ BK255.out
       obtain ⟨F17_0, F17_1, F17_2⟩ := fz3_ BK255.out
       go_wp2
       go_ret
       exact en_ HB
     ·rw [if_neg c14] at H
      have c14b0 : (a0 == 3) = false := beq_eq_false_iff_ne.mpr c14
      have c14b1 : (a0 != 3) = true := bne_iff_ne.mpr c14
      by_cases c18 : a2_2.toList = ([] : List UInt8)
      ·rw [if_pos c18] at H
       have c18b0 : a2_2.toList.isEmpty = true := by simpa using c18
       have c18b1 : (a2_2.toList == ([] : List UInt8)) = true := beq_iff_eq.mpr c18
       have c18b2 : (a2_2.toList != ([] : List UInt8)) = false := bne_eq_false_iff_eq.mpr c18
       have c18b3 : (a2_2.toList = ([] : List UInt8)) := c18
       clear c18
       by_cases c19 : a0 = 1
       ·rw [if_pos c19] at H
        have c19b0 : (a0 == 1) = true := beq_iff_eq.mpr c19
        have c19b1 : (a0 != 1) = false := bne_eq_false_iff_eq.mpr c19
        clear c19
        obtain rfl := Option.some.inj H
        obtain ⟨C20_0, C20_1, C20_2⟩ := cz3_ BK255.out
        obtain ⟨F20_0, F20_1, F20_2⟩ := fz3_ BK255.out
        go_wp2
        go_ret
        exact en_ HB
       ·rw [if_neg c19] at H
        have c19b0 : (a0 == 1) = false := beq_eq_false_iff_ne.mpr c19
        have c19b1 : (a0 != 1) = true := bne_iff_ne.mpr c19
        by_cases c21 : a2_1 = 0
        ·rw [if_pos c21] at H
         have c21b0 : (a2_1 == 0) = true := beq_iff_eq.mpr c21
         have c21b1 : (a2_1 != 0) = false := bne_eq_false_iff_eq.mpr c21
         clear c21
         obtain rfl := Option.some.inj H
         obtain ⟨C22_0, C22_1, C22_2⟩ := cz3_ BK255.out
         obtain ⟨F22_0, F22_1, F22_2⟩ := fz3_ BK255.out
         go_wp2
         go_ret
         exact en_ HB
        ·rw [if_neg c21] at H
         have c21b0 : (a2_1 == 0) = false := beq_eq_false_iff_ne.mpr c21
         have c21b1 : (a2_1 != 0) = true := bne_iff_ne.mpr c21
         obtain rfl := Option.some.inj H
         obtain ⟨C23_0, C23_1, C23_2⟩ := cz3_ BK255.out
         obtain ⟨F23_0, F23_1, F23_2⟩ := fz3_ BK255.out
         go_wp2
         go_ret
         exact en_ HB
      ·rw [if_neg c18] at H
       have c18b0 : a2_2.toList.isEmpty = false := by simpa using c18
       have c18b1 : (a2_2.toList == ([] : List UInt8)) = false := beq_eq_false_iff_ne.mpr c18
       have c18b2 : (a2_2.toList != ([] : List UInt8)) = true := bne_iff_ne.mpr c18
       have c18b3 : ¬ (a2_2.toList = ([] : List UInt8)) := c18
       obtain rfl := Option.some.inj H
       obtain ⟨C24_0, C24_1, C24_2⟩ := cz3_ BK255.out
       obtain ⟨F24_0, F24_1, F24_2⟩ := fz3_ BK255.out
       go_wp2
       go_ret
       exact en_ HB
end Go.Proofs.Ytdedmhmomoejkaa.X
namespace Go.Proofs.Ytdedmhmomoejkaa.X
open Go.RowKit Go.Proofs.YtdedmhmomoejkaaW.PrintWords Go.Proofs.YtdedmhmomoejkaaW.PrintLast
set_option linter.unusedVariables false
set_option linter.unusedSimpArgs false
theorem TotP.same {α : Type} {o o' : Option α} (h : Ans o') (e : o = o') : TotP (fun r => o' = some r) (fun _ => o) := by
  obtain ⟨r, hr⟩ := h
  exact ⟨r, Ev.const (e.trans hr), hr⟩
theorem empty_is (b : ByteArray) : b.toList.isEmpty = (b.toList == ([] : List UInt8)) := by cases b.toList <;> rfl
theorem may09 (a0 : Int) (a1 b0 : Bool) (b1 : Int) (b2 : ByteArray) : TotP (fun r => cell_May.f a0 a1 b0 b1 b2 = some r) (fun k => firkinref09_May.f k a0 a1 b0 b1 b2) := by
  have hj : ∀ t : Bool, (t = true ↔ a0 < 1 ∨ a0 > 3) → TotP (fun r => cell_May.f a0 a1 b0 b1 b2 = some r) (fun k => firkinref09_May.j0 k a0 a1 t b0 b1 b2) := by
    intro t ht
    refine TotP.succ (fun k => by simp only [firkinref09_May.j0]; rfl) ?_
    refine TotP.same (cellMay_ans _ _ _ _ _) ?_
    unfold cell_May.f
    rw [empty_is]
    by_cases h1 : a0 < 1 ∨ a0 > 3
    · have ht := ht.2 h1
      subst ht
      have n1 : ¬ a0 = 1 := by omega
      have n2 : ¬ a0 = 2 := by omega
      have n3 : ¬ a0 = 3 := by omega
      by_cases h2 : a0 ≥ 1
      · have h3 : ¬ a0 ≤ 3 := by omega
        simp [n1, n2, n3, h2, h3]
      · simp [n1, n2, n3, h2]
    · have ht : t = false := Bool.eq_false_iff.2 (fun e => h1 (ht.1 e))
      subst ht
      have h2 : a0 ≥ 1 := by omega
      have h3 : a0 ≤ 3 := by omega
      by_cases e3 : a0 = 3
      · subst e3
        by_cases hz : b1 = 0 <;> by_cases he : b2.toList = [] <;> cases b0 <;> cases a1 <;> simp [hz, he]
      · by_cases e1 : a0 = 1
        · subst e1
          by_cases hz : b1 = 0 <;> by_cases he : b2.toList = [] <;> cases b0 <;> cases a1 <;> simp [hz, he]
        · have e2 : a0 = 2 := by omega
          subst e2
          by_cases hz : b1 = 0 <;> by_cases he : b2.toList = [] <;> cases b0 <;> cases a1 <;> simp [hz, he]
  unfold firkinref09_May.f
  refine TotP.ite (fun h => hj true (by simp [h])) (fun h => hj _ ?_)
  constructor
  · intro h'; exact .inr (of_decide_eq_true h')
  · rintro (h' | h')
    · exact absurd h' h
    · exact decide_eq_true h'
end Go.Proofs.Ytdedmhmomoejkaa.X
namespace Go.Proofs.Ytdedmhmomoejkaa.X
open Go.RowKit Go.Proofs.YtdedmhmomoejkaaW.PrintWords Go.Proofs.YtdedmhmomoejkaaW.PrintLast Go.Proofs.YtdedmhmomoejkaaW.PrintMore
attribute [local go_sem] max2_int max_two
set_option linter.unusedVariables false
set_option linter.unusedSimpArgs false
attribute [local go_sem high] eqA24
def firkinref17_flat.f (a0_0 : Int) (a0_1 : ByteArray) (a0_2 : Int) (a0_3 : Bool) (a0_4 : Int) (a0_5 : ByteArray) (a0_6 : Int) (a0_7 : ByteArray) (l0_8 : List (S27)) (a1_0 : Int) (a1_1 : ByteArray) (a1_2 : Int) (a1_3 : Bool) (a1_4 : Int) (a1_5 : ByteArray) (a1_6 : Int) (a1_7 : ByteArray) (l1_8 : List (S27)) : Option (Bool) := if a0_0 = a1_0 then (if a0_1.toList = a1_1.toList then (if a0_2 = a1_2 then (if (a0_3 == a1_3 && (a0_4 == a1_4 && (a0_5.toList == a1_5.toList))) = true then (if a0_6 = a1_6 then (some (a0_7.toList == a1_7.toList)) else (some false)) else (some false)) else (some false)) else (some false)) else (some false)
set_option maxHeartbeats 8000000 in
set_option maxRecDepth 100000 in
theorem firkinref17_flat.calls (a0_0 : Int) (a0_1 : ByteArray) (a0_2 : Int) (a0_3 : Bool) (a0_4 : Int) (a0_5 : ByteArray) (a0_6 : Int) (a0_7 : ByteArray) (A0_8 : Option Addr) (c0_8 : Nat) (l0_8 : List (S27)) (a1_0 : Int) (a1_1 : ByteArray) (a1_2 : Int) (a1_3 : Bool) (a1_4 : Int) (a1_5 : ByteArray) (a1_6 : Int) (a1_7 : ByteArray) (A1_8 : Option Addr) (c1_8 : Nat) (l1_8 : List (S27)) (r : Bool) (w : World) (hr0_8 : Kd.C k27 w A0_8 l0_8.length l0_8) (hc0_8 : l0_8.length ≤ c0_8) (hr1_8 : Kd.C k27 w A1_8 l1_8.length l1_8) (hc1_8 : l1_8.length ≤ c1_8) (h : firkinref17_flat.f a0_0 a0_1 a0_2 a0_3 a0_4 a0_5 a0_6 a0_7 l0_8 a1_0 a1_1 a1_2 a1_3 a1_4 a1_5 a1_6 a1_7 l1_8 = some r) :
  Calls Try.prog 98 #[.agg #[.int .i64 a0_0, .string a0_1, .int .i64 a0_2, .bool a0_3, .int .i64 a0_4, .string a0_5, .int .i64 a0_6, .string a0_7, .slice A0_8 l0_8.length c0_8], .agg #[.int .i64 a1_0, .string a1_1, .int .i64 a1_2, .bool a1_3, .int .i64 a1_4, .string a1_5, .int .i64 a1_6, .string a1_7, .slice A1_8 l1_8.length c1_8]] w fun e w' => e = .returned (.bool r) ∧ Below w.heap.size w w' := by
 have hu27 := Try.underlying27
 have hu24 := Try.underlying24
 have HR0_8 := Aside0.mk hr0_8
 have HC0_8 := Aside0.mk hc0_8
 clear hr0_8 hc0_8
 have HR1_8 := Aside0.mk hr1_8
 have HC1_8 := Aside0.mk hc1_8
 clear hr1_8 hc1_8
 have HB := Aside0.mk (Below.refl w.heap.size w)
 have H : (if a0_0 = a1_0 then (if a0_1.toList = a1_1.toList then (if a0_2 = a1_2 then (if (a0_3 == a1_3 && (a0_4 == a1_4 && (a0_5.toList == a1_5.toList))) = true then (if a0_6 = a1_6 then (some (a0_7.toList == a1_7.toList)) else (some false)) else (some false)) else (some false)) else (some false)) else (some false)) = some r := h
 clear h
 by_cases c3 : a0_0 = a1_0
 ·rw [if_pos c3] at H
  have c3b0 : (a0_0 == a1_0) = true := beq_iff_eq.mpr c3
  have c3b1 : (a0_0 != a1_0) = false := bne_eq_false_iff_eq.mpr c3
  clear c3
  by_cases c4 : a0_1.toList = a1_1.toList
  ·rw [if_pos c4] at H
   have c4b0 : (a0_1.toList == a1_1.toList) = true := beq_iff_eq.mpr c4
   have c4b1 : (a0_1.toList != a1_1.toList) = false := bne_eq_false_iff_eq.mpr c4
   clear c4
   by_cases c5 : a0_2 = a1_2
   ·rw [if_pos c5] at H
    have c5b0 : (a0_2 == a1_2) = true := beq_iff_eq.mpr c5
    have c5b1 : (a0_2 != a1_2) = false := bne_eq_false_iff_eq.mpr c5
    clear c5
    by_cases c6 : (a0_3 == a1_3 && (a0_4 == a1_4 && (a0_5.toList == a1_5.toList))) = true
    ·rw [if_pos c6] at H
     have c6b0 : (a0_3 == a1_3 && (a0_4 == a1_4 && (a0_5.toList == a1_5.toList))) = true := c6
     (try (have c6b1 : decide (a0_3 = a1_3 && (a0_4 == a1_4 && (a0_5.toList == a1_5.toList))) = true := by simpa using c6))
     (try (have c6b2 : (a0_3 == a1_3 && (a0_4 == a1_4 && (a0_5.toList == a1_5.toList))) = true := by simpa using c6))
     clear c6
     by_cases c7 : a0_6 = a1_6
     ·rw [if_pos c7] at H
      have c7b0 : (a0_6 == a1_6) = true := beq_iff_eq.mpr c7
      have c7b1 : (a0_6 != a1_6) = false := bne_eq_false_iff_eq.mpr c7
      clear c7
      obtain rfl := Option.some.inj H
      go_enter Try.func98, Try.ntmps98
      go_wp2_with (first | (refine bx_ (N := 2) (cs := #[.int .i64 a0_0, .string a0_1, .int .i64 a0_2, .bool a0_3, .int .i64 a0_4, .string a0_5, .int .i64 a0_6, .string a0_7, .slice A0_8 l0_8.length c0_8]) (t := 27) ?_; intro gb263 hg w8 hbox hb; have BK263 := Aside0.mk (hbox); have GW263 := ge_ HB hg; have GE263 := ge_ HB hg; replace HB := bs_ HB hb; clear hb hbox hg) | (refine bx_ (N := 3) (cs := #[.int .i64 a1_0, .string a1_1, .int .i64 a1_2, .bool a1_3, .int .i64 a1_4, .string a1_5, .int .i64 a1_6, .string a1_7, .slice A1_8 l1_8.length c1_8]) (t := 27) ?_; intro gb264 hg w9 hbox hb; have BK264 := Aside0.mk (hbox); have GW264 := ge_ HB hg; have GE264 := ge_ HB hg; have NB263_264 := lt_ BK263 hg; have NB264_263 := gt_ BK263 hg; replace BK263 := bk_ BK263 hb; replace HB := bs_ HB hb; clear hb hbox hg; have hnb10 := NB263_264.out; have hnc10 := NB264_263.out; obtain ⟨C11_0, C11_1, C11_2, C11_3, C11_4, C11_5, C11_6, C11_7, C11_8⟩ := zc9_ BK263.out; obtain ⟨F11_0, F11_1, F11_2, F11_3, F11_4, F11_5, F11_6, F11_7, F11_8⟩ := zf9_ BK263.out; obtain ⟨C12_0, C12_1, C12_2, C12_3, C12_4, C12_5, C12_6, C12_7, C12_8⟩ := zc9_ BK264.out; obtain ⟨F12_0, F12_1, F12_2, F12_3, F12_4, F12_5, F12_6, F12_7, F12_8⟩ := zf9_ BK264.out))
      go_ret
      exact en_ HB
     ·rw [if_neg c7] at H
      have c7b0 : (a0_6 == a1_6) = false := beq_eq_false_iff_ne.mpr c7
      have c7b1 : (a0_6 != a1_6) = true := bne_iff_ne.mpr c7
      obtain rfl := Option.some.inj H
      go_enter Try.func98, Try.ntmps98
      go_wp2_with (first | (refine bx_ (N := 2) (cs := #[.int .i64 a0_0, .string a0_1, .int .i64 a0_2, .bool a0_3, .int .i64 a0_4, .string a0_5, .int .i64 a0_6, .string a0_7, .slice A0_8 l0_8.length c0_8]) (t := 27) ?_; intro gb263 hg w13 hbox hb; have BK263 := Aside0.mk (hbox); have GW263 := ge_ HB hg; have GE263 := ge_ HB hg; replace HB := bs_ HB hb; clear hb hbox hg) | (refine bx_ (N := 3) (cs := #[.int .i64 a1_0, .string a1_1, .int .i64 a1_2, .bool a1_3, .int .i64 a1_4, .string a1_5, .int .i64 a1_6, .string a1_7, .slice A1_8 l1_8.length c1_8]) (t := 27) ?_; intro gb264 hg w14 hbox hb; have BK264 := Aside0.mk (hbox); have GW264 := ge_ HB hg; have GE264 := ge_ HB hg; have NB263_264 := lt_ BK263 hg; have NB264_263 := gt_ BK263 hg; replace BK263 := bk_ BK263 hb; replace HB := bs_ HB hb; clear hb hbox hg; have hnb15 := NB263_264.out; have hnc15 := NB264_263.out; obtain ⟨C16_0, C16_1, C16_2, C16_3, C16_4, C16_5, C16_6, C16_7, C16_8⟩ := zc9_ BK263.out; obtain ⟨F16_0, F16_1, F16_2, F16_3, F16_4, F16_5, F16_6, F16_7, F16_8⟩ := zf9_ BK263.out; obtain ⟨C17_0, C17_1, C17_2, C17_3, C17_4, C17_5, C17_6, C17_7, C17_8⟩ := zc9_ BK264.out; obtain ⟨F17_0, F17_1, F17_2, F17_3, F17_4, F17_5, F17_6, F17_7, F17_8⟩ := zf9_ BK264.out))
      go_ret
      exact en_ HB
    ·rw [if_neg c6] at H
     have c6b0 : (a0_3 == a1_3 && (a0_4 == a1_4 && (a0_5.toList == a1_5.toList))) = false := by simpa using c6
     (try (have c6b1 : decide (a0_3 = a1_3 && (a0_4 == a1_4 && (a0_5.toList == a1_5.toList))) = false := by simpa using c6))
     (try (have c6b2 : (a0_3 == a1_3 && (a0_4 == a1_4 && (a0_5.toList == a1_5.toList))) = false := by simpa using c6))
     (try (have c6b3 : ¬ (a0_3 = a1_3 && (a0_4 == a1_4 && (a0_5.toList == a1_5.toList))) := by simpa using c6))
     clear c6
     obtain rfl := Option.some.inj H
     go_enter Try.func98, Try.ntmps98
     go_wp2_with (first | (refine bx_ (N := 2) (cs := #[.int .i64 a0_0, .string a0_1, .int .i64 a0_2, .bool a0_3, .int .i64 a0_4, .string a0_5, .int .i64 a0_6, .string a0_7, .slice A0_8 l0_8.length c0_8]) (t := 27) ?_; intro gb263 hg w18 hbox hb; have BK263 := Aside0.mk (hbox); have GW263 := ge_ HB hg; have GE263 := ge_ HB hg; replace HB := bs_ HB hb; clear hb hbox hg) | (refine bx_ (N := 3) (cs := #[.int .i64 a1_0, .string a1_1, .int .i64 a1_2, .bool a1_3, .int .i64 a1_4, .string a1_5, .int .i64 a1_6, .string a1_7, .slice A1_8 l1_8.length c1_8]) (t := 27) ?_; intro gb264 hg w19 hbox hb; have BK264 := Aside0.mk (hbox); have GW264 := ge_ HB hg; have GE264 := ge_ HB hg; have NB263_264 := lt_ BK263 hg; have NB264_263 := gt_ BK263 hg; replace BK263 := bk_ BK263 hb; replace HB := bs_ HB hb; clear hb hbox hg; have hnb20 := NB263_264.out; have hnc20 := NB264_263.out; obtain ⟨C21_0, C21_1, C21_2, C21_3, C21_4, C21_5, C21_6, C21_7, C21_8⟩ := zc9_ BK263.out; obtain ⟨F21_0, F21_1, F21_2, F21_3, F21_4, F21_5, F21_6, F21_7, F21_8⟩ := zf9_ BK263.out; obtain ⟨C22_0, C22_1, C22_2, C22_3, C22_4, C22_5, C22_6, C22_7, C22_8⟩ := zc9_ BK264.out; obtain ⟨F22_0, F22_1, F22_2, F22_3, F22_4, F22_5, F22_6, F22_7, F22_8⟩ := zf9_ BK264.out))
     go_ret
     exact en_ HB
   ·rw [if_neg c5] at H
    have c5b0 : (a0_2 == a1_2) = false := beq_eq_false_iff_ne.mpr c5
    have c5b1 : (a0_2 != a1_2) = true := bne_iff_ne.mpr c5
    obtain rfl := Option.some.inj H
    go_enter Try.func98, Try.ntmps98
    go_wp2_with (first | (refine bx_ (N := 2) (cs := #[.int .i64 a0_0, .string a0_1, .int .i64 a0_2, .bool a0_3, .int .i64 a0_4, .string a0_5, .int .i64 a0_6, .string a0_7, .slice A0_8 l0_8.length c0_8]) (t := 27) ?_; intro gb263 hg w23 hbox hb; have BK263 := Aside0.mk (hbox); have GW263 := ge_ HB hg; have GE263 := ge_ HB hg; replace HB := bs_ HB hb; clear hb hbox hg) | (refine bx_ (N := 3) (cs := #[.int .i64 a1_0, .string a1_1, .int .i64 a1_2, .bool a1_3, .int .i64 a1_4, .string a1_5, .int .i64 a1_6, .string a1_7, .slice A1_8 l1_8.length c1_8]) (t := 27) ?_; intro gb264 hg w24 hbox hb; have BK264 := Aside0.mk (hbox); have GW264 := ge_ HB hg; have GE264 := ge_ HB hg; have NB263_264 := lt_ BK263 hg; have NB264_263 := gt_ BK263 hg; replace BK263 := bk_ BK263 hb; replace HB := bs_ HB hb; clear hb hbox hg; have hnb25 := NB263_264.out; have hnc25 := NB264_263.out; obtain ⟨C26_0, C26_1, C26_2, C26_3, C26_4, C26_5, C26_6, C26_7, C26_8⟩ := zc9_ BK263.out; obtain ⟨F26_0, F26_1, F26_2, F26_3, F26_4, F26_5, F26_6, F26_7, F26_8⟩ := zf9_ BK263.out; obtain ⟨C27_0, C27_1, C27_2, C27_3, C27_4, C27_5, C27_6, C27_7, C27_8⟩ := zc9_ BK264.out; obtain ⟨F27_0, F27_1, F27_2, F27_3, F27_4, F27_5, F27_6, F27_7, F27_8⟩ := zf9_ BK264.out))
    go_ret
    exact en_ HB
  ·rw [if_neg c4] at H
   have c4b0 : (a0_1.toList == a1_1.toList) = false := beq_eq_false_iff_ne.mpr c4
   have c4b1 : (a0_1.toList != a1_1.toList) = true := bne_iff_ne.mpr c4
   obtain rfl := Option.some.inj H
   go_enter Try.func98, Try.ntmps98
   go_wp2_with (first | (refine bx_ (N := 2) (cs := #[.int .i64 a0_0, .string a0_1, .int .i64 a0_2, .bool a0_3, .int .i64 a0_4, .string a0_5, .int .i64 a0_6, .string a0_7, .slice A0_8 l0_8.length c0_8]) (t := 27) ?_; intro gb263 hg w28 hbox hb; have BK263 := Aside0.mk (hbox); have GW263 := ge_ HB hg; have GE263 := ge_ HB hg; replace HB := bs_ HB hb; clear hb hbox hg) | (refine bx_ (N := 3) (cs := #[.int .i64 a1_0, .string a1_1, .int .i64 a1_2, .bool a1_3, .int .i64 a1_4, .string a1_5, .int .i64 a1_6, .string a1_7, .slice A1_8 l1_8.length c1_8]) (t := 27) ?_; intro gb264 hg w29 hbox hb; have BK264 := Aside0.mk (hbox); have GW264 := ge_ HB hg; have GE264 := ge_ HB hg; have NB263_264 := lt_ BK263 hg; have NB264_263 := gt_ BK263 hg; replace BK263 := bk_ BK263 hb; replace HB := bs_ HB hb; clear hb hbox hg; have hnb30 := NB263_264.out; have hnc30 := NB264_263.out; obtain ⟨C31_0, C31_1, C31_2, C31_3, C31_4, C31_5, C31_6, C31_7, C31_8⟩ := zc9_ BK263.out; obtain ⟨F31_0, F31_1, F31_2, F31_3, F31_4, F31_5, F31_6, F31_7, F31_8⟩ := zf9_ BK263.out; obtain ⟨C32_0, C32_1, C32_2, C32_3, C32_4, C32_5, C32_6, C32_7, C32_8⟩ := zc9_ BK264.out; obtain ⟨F32_0, F32_1, F32_2, F32_3, F32_4, F32_5, F32_6, F32_7, F32_8⟩ := zf9_ BK264.out))
   go_ret
   exact en_ HB
 ·rw [if_neg c3] at H
  have c3b0 : (a0_0 == a1_0) = false := beq_eq_false_iff_ne.mpr c3
  have c3b1 : (a0_0 != a1_0) = true := bne_iff_ne.mpr c3
  obtain rfl := Option.some.inj H
  go_enter Try.func98, Try.ntmps98
  go_wp2_with (first | (refine bx_ (N := 2) (cs := #[.int .i64 a0_0, .string a0_1, .int .i64 a0_2, .bool a0_3, .int .i64 a0_4, .string a0_5, .int .i64 a0_6, .string a0_7, .slice A0_8 l0_8.length c0_8]) (t := 27) ?_; intro gb263 hg w33 hbox hb; have BK263 := Aside0.mk (hbox); have GW263 := ge_ HB hg; have GE263 := ge_ HB hg; replace HB := bs_ HB hb; clear hb hbox hg) | (refine bx_ (N := 3) (cs := #[.int .i64 a1_0, .string a1_1, .int .i64 a1_2, .bool a1_3, .int .i64 a1_4, .string a1_5, .int .i64 a1_6, .string a1_7, .slice A1_8 l1_8.length c1_8]) (t := 27) ?_; intro gb264 hg w34 hbox hb; have BK264 := Aside0.mk (hbox); have GW264 := ge_ HB hg; have GE264 := ge_ HB hg; have NB263_264 := lt_ BK263 hg; have NB264_263 := gt_ BK263 hg; replace BK263 := bk_ BK263 hb; replace HB := bs_ HB hb; clear hb hbox hg; have hnb35 := NB263_264.out; have hnc35 := NB264_263.out; obtain ⟨C36_0, C36_1, C36_2, C36_3, C36_4, C36_5, C36_6, C36_7, C36_8⟩ := zc9_ BK263.out; obtain ⟨F36_0, F36_1, F36_2, F36_3, F36_4, F36_5, F36_6, F36_7, F36_8⟩ := zf9_ BK263.out; obtain ⟨C37_0, C37_1, C37_2, C37_3, C37_4, C37_5, C37_6, C37_7, C37_8⟩ := zc9_ BK264.out; obtain ⟨F37_0, F37_1, F37_2, F37_3, F37_4, F37_5, F37_6, F37_7, F37_8⟩ := zf9_ BK264.out))
  go_ret
  exact en_ HB
end Go.Proofs.Ytdedmhmomoejkaa.X
