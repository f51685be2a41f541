/- Words and walks for X.pruneSafe_holds, part 14 of the texts that a program of this session laid together. -/
import Derived.Test.YtdedmhmomoejkaaS1
import Derived.Test.YtdedmhmomoejkaaS2
import Derived.Test.YtdedmhmomoejkaaS6
import Derived.Test.YtdedmhmomoejkaaS7
import Derived.Test.YtdedmhmomoejkaaS9
import Derived.Test.YtdedmhmomoejkaaS12
import Derived.Test.YtdedmhmomoejkaaS13
namespace Go.Proofs.Ytdedmhmomoejkaa.X
open Go.RowKit Go.Proofs.YtdedmhmomoejkaaW.PrintWords Go.Proofs.YtdedmhmomoejkaaW.PrintLast Go.Proofs.YtdedmhmomoejkaaW.PrintMore
attribute [local go_sem] max2_int max_two
set_option linter.unusedVariables false
set_option linter.unusedSimpArgs false
mutual
def Am.l0 : Nat → List (S24) → Int → Int → Int → Bool → Int → ByteArray → Bool → Int → ByteArray → Option (Int × Int × Bool × Int × ByteArray × Bool × Int × ByteArray)
 | 0, _, _, _, _, _, _, _, _, _, _ => none
 | k + 1, x0, x4, x411000, x411001, x411002, x411003, x411004, x411005, x411006, x411007 => if x4 < (x0.length : Int) then (if 0 ≤ x4 then (if (Ax x0 x4).f0 = true then (Am.l0 k x0 (wrap64 (x4 + 1)) x411000 (wrap64 (x411001 + 1)) x411002 x411003 x411004 x411005 x411006 x411007) else (if x411001 = x4 then (Am.j1 k x0 x4 (x411001 == x4) true x411000 x411001 x411002 x411003 x411004 x411005 x411006 x411007) else ((Bb.f k ((Ax x0 x4).f0) ((Ax x0 x4).f1) ((Ax x0 x4).f2) x411002 x411003 x411004).bind fun t413 => (Am.j1 k x0 x4 (x411001 == x4) (decide (t413 < 0)) x411000 x411001 x411002 x411003 x411004 x411005 x411006 x411007)))) else (none)) else (some (x411000, x411001, x411002, x411003, x411004, x411005, x411006, x411007))
def Am.j1 : Nat → List (S24) → Int → Bool → Bool → Int → Int → Bool → Int → ByteArray → Bool → Int → ByteArray → Option (Int × Int × Bool × Int × ByteArray × Bool × Int × ByteArray)
 | 0, _, _, _, _, _, _, _, _, _, _, _, _ => none
 | k + 1, x0, x4, x5, x38, x411000, x411001, x411002, x411003, x411004, x411005, x411006, x411007 => if x38 = true then (if 0 ≤ x4 then (if x4 < (x0.length : Int) then (if x5 = true then (Am.l0 k x0 (wrap64 (x4 + 1)) x411000 x411001 ((Ax x0 x4).f0) ((Ax x0 x4).f1) ((Ax x0 x4).f2) ((Ax x0 x4).f0) ((Ax x0 x4).f1) ((Ax x0 x4).f2)) else ((Bb.f k ((Ax x0 x4).f0) ((Ax x0 x4).f1) ((Ax x0 x4).f2) x411005 x411006 x411007).bind fun t417 => (if t417 > 0 then (Am.l0 k x0 (wrap64 (x4 + 1)) x411000 x411001 ((Ax x0 x4).f0) ((Ax x0 x4).f1) ((Ax x0 x4).f2) ((Ax x0 x4).f0) ((Ax x0 x4).f1) ((Ax x0 x4).f2)) else (Am.l0 k x0 (wrap64 (x4 + 1)) x411000 x411001 ((Ax x0 x4).f0) ((Ax x0 x4).f1) ((Ax x0 x4).f2) x411005 x411006 x411007)))) else (none)) else (none)) else (if x5 = true then (if 0 ≤ x4 then (if x4 < (x0.length : Int) then (Am.l0 k x0 (wrap64 (x4 + 1)) x411000 x411001 x411002 x411003 x411004 ((Ax x0 x4).f0) ((Ax x0 x4).f1) ((Ax x0 x4).f2)) else (none)) else (none)) else (if 0 ≤ x4 then (if x4 < (x0.length : Int) then ((Bb.f k ((Ax x0 x4).f0) ((Ax x0 x4).f1) ((Ax x0 x4).f2) x411005 x411006 x411007).bind fun t421 => (if t421 > 0 then (Am.l0 k x0 (wrap64 (x4 + 1)) x411000 x411001 x411002 x411003 x411004 ((Ax x0 x4).f0) ((Ax x0 x4).f1) ((Ax x0 x4).f2)) else (Am.l0 k x0 (wrap64 (x4 + 1)) x411000 x411001 x411002 x411003 x411004 x411005 x411006 x411007))) else (none)) else (none)))
end
def Am.f (k : Nat) (l0 : List (S24)) : Option (Int × Int × Bool × Int × ByteArray × Bool × Int × ByteArray) := Am.l0 k l0 0 (l0.length : Int) 0 false 0 (⟨#[]⟩ : ByteArray) false 0 (⟨#[]⟩ : ByteArray)
theorem Am.mono_l : ∀ k, (∀ y0 y1 y2 y3 y4 y5 y6 y7 y8 y9, LeO (Am.l0 k y0 y1 y2 y3 y4 y5 y6 y7 y8 y9) (Am.l0 (k + 1) y0 y1 y2 y3 y4 y5 y6 y7 y8 y9)) ∧ (∀ y0 y1 y2 y3 y4 y5 y6 y7 y8 y9 y10 y11, LeO (Am.j1 k y0 y1 y2 y3 y4 y5 y6 y7 y8 y9 y10 y11) (Am.j1 (k + 1) y0 y1 y2 y3 y4 y5 y6 y7 y8 y9 y10 y11))
 | 0 => ⟨fun _ _ _ _ _ _ _ _ _ _ r h => by simp [Am.l0] at h, fun _ _ _ _ _ _ _ _ _ _ _ _ r h => by simp [Am.j1] at h⟩
 | k + 1 => by
  obtain ⟨ih0, ih1⟩ := Am.mono_l k
  refine ⟨?_, ?_⟩
  focus intro y0 y1 y2 y3 y4 y5 y6 y7 y8 y9;unfold Am.l0
  rotate_left
  focus intro y0 y1 y2 y3 y4 y5 y6 y7 y8 y9 y10 y11;unfold Am.j1
  rotate_left
  all_goals repeat' first|(with_reducible first|exact ih0 _ _ _ _ _ _ _ _ _ _|exact ih1 _ _ _ _ _ _ _ _ _ _ _ _|exact Bb.mono _ _ _ _ _ _ _|exact LeO.refl _|exact LeO.none _|refine LeO.ite ?_ ?_|refine LeO.bind ?_ fun _=>?_)|exact ih0 _ _ _ _ _ _ _ _ _ _|exact ih1 _ _ _ _ _ _ _ _ _ _ _ _|exact Bb.mono _ _ _ _ _ _ _|exact LeO.none _|refine LeO.ite ?_ ?_|refine LeO.bind ?_ fun _=>?_
theorem Am.mono : ∀ a0 k, LeO (Am.f k a0) (Am.f (k + 1) a0) := by
 intro a0 k
 obtain ⟨ih0, ih1⟩ := Am.mono_l k
 unfold Am.f
 repeat' first|(with_reducible first|exact ih0 _ _ _ _ _ _ _ _ _ _|exact ih1 _ _ _ _ _ _ _ _ _ _ _ _|exact Bb.mono _ _ _ _ _ _ _|exact LeO.refl _|exact LeO.none _|refine LeO.ite ?_ ?_|refine LeO.bind ?_ fun _=>?_)|exact ih0 _ _ _ _ _ _ _ _ _ _|exact ih1 _ _ _ _ _ _ _ _ _ _ _ _|exact Bb.mono _ _ _ _ _ _ _|exact LeO.none _|refine LeO.ite ?_ ?_|refine LeO.bind ?_ fun _=>?_
def Am.T8 : Bool × List (List Nat × List Nat) := (true, [([], []), ([0], [0]), ([1], [1]), ([1], [1]), ([2, 3, 1], [1, 2, 3]), ([4, 1], [1, 4]), ([1], [1]), ([6, 1], [1, 6]), ([5, 7, 1, 1], [1, 5, 7]), ([8, 1], [1, 8]), ([1, 9], [1, 9])])
def Am.B8 : List Nat := [0, 1, 3, 3, 15, 31, 3, 67, 255, 511, 1023]
theorem Am.tab8 : rtab .any (opsOf Try.f18 8) = Am.T8 := by kernel_rfl
theorem Am.bits8 : waitsOk Am.T8.2 Am.B8 = true := by kernel_rfl
def Am.T10 : Bool × List (List Nat × List Nat) := (true, [([], []), ([0], [0]), ([1], [1]), ([1], [1]), ([2, 3, 1], [1, 2, 3]), ([4, 1], [1, 4]), ([1], [1]), ([6, 1], [1, 6]), ([5, 7, 1, 1], [1, 5, 7]), ([8, 1], [1, 8]), ([1, 9], [1, 9])])
def Am.B10 : List Nat := [0, 1, 3, 3, 15, 31, 3, 67, 255, 511, 1023]
theorem Am.tab10 : rtab .any (opsOf Try.f18 10) = Am.T10 := by kernel_rfl
theorem Am.bits10 : waitsOk Am.T10.2 Am.B10 = true := by kernel_rfl
set_option maxHeartbeats 8000000 in
set_option maxRecDepth 100000 in
theorem Am.calls (k : Nat) (A0 : Option Addr) (c0 : Nat) (l0 : List (S24)) (r1 : Int) (r2 : Int) (r3 : Bool) (r4 : Int) (r5 : ByteArray) (r6 : Bool) (r7 : Int) (r8 : ByteArray) (w : World) (hr0 : Kd.C k24 w A0 l0.length l0) (hc0 : l0.length ≤ c0) (h : Am.f k l0 = some (r1, r2, r3, r4, r5, r6, r7, r8)) :
  Calls Try.prog 18 #[.slice A0 l0.length c0] w fun e w' => e = .returned (.agg #[.int .i64 r1, .int .i64 r2, .bool r3, .int .i64 r4, .string r5, .bool r6, .int .i64 r7, .string r8]) ∧ Below w.heap.size w w' := by
 have hu33 := Try.underlying33
 have hu24 := Try.underlying24
 have HR0 := Aa.mk hr0
 have HC0 := Aa.mk hc0
 clear hr0 hc0
 have HB := Aa.mk (Below.refl w.heap.size w)
 have H : (Am.l0 k l0 0 (l0.length : Int) 0 false 0 (⟨#[]⟩ : ByteArray) false 0 (⟨#[]⟩ : ByteArray)) = some (r1, r2, r3, r4, r5, r6, r7, r8) := h
 clear h
 have H' := Aa.mk H
 clear H
 go_enter Try.func18, Try.ntmps18
 go_wp2_with (first | (refine bx_ (N := 2) (cs := #[.int .i64 0, .int .i64 0, .bool false, .int .i64 0, .string (⟨#[]⟩ : ByteArray), .bool false, .int .i64 0, .string (⟨#[]⟩ : ByteArray)]) (t := 33) ?_; intro gb409 hg w2 hbox hb; have BK409 := Aa.mk (hbox); have GW409 := ge_ HB hg; have GE409 := ge_ HB hg; replace HB := bs_ HB hb; clear hb hbox hg) | (refine bx_ (N := 3) (cs := #[.int .i64 0, .int .i64 0, .bool false, .int .i64 0, .string (⟨#[]⟩ : ByteArray), .bool false, .int .i64 0, .string (⟨#[]⟩ : ByteArray)]) (t := 33) ?_; intro gb410 hg w3 hbox hb; have BK410 := Aa.mk (hbox); have GW410 := ge_ HB hg; have GE410 := ge_ HB hg; have NB409_410 := lt_ BK409 hg; have NB410_409 := gt_ BK409 hg; replace BK409 := bk_ BK409 hb; replace HB := bs_ HB hb; clear hb hbox hg; have hnb4 := NB410_409.out; have hnc4 := NB409_410.out; obtain ⟨C5_0, C5_1, C5_2, C5_3, C5_4, C5_5, C5_6, C5_7⟩ := zc8_ BK410.out; obtain ⟨F5_0, F5_1, F5_2, F5_3, F5_4, F5_5, F5_6, F5_7⟩ := zf8_ BK410.out))
 go_loopg [4] k (fun kq v4 w' => ∃ (x4_1 : Int) (x411001_1 : Int) (x411002_1 : Bool) (x411003_1 : Int) (x411004_1 : ByteArray) (x411005_1 : Bool) (x411006_1 : Int) (x411007_1 : ByteArray), v4 = .int .i64 x4_1 ∧ Aa (Am.l0 kq l0 x4_1 (l0.length : Int) x411001_1 x411002_1 x411003_1 x411004_1 x411005_1 x411006_1 x411007_1 = some (r1, r2, r3, r4, r5, r6, r7, r8)) ∧ Aa (kq ≤ k) ∧ Aa (w'.heap[gb409]? = some (.cells #[.int .i64 0, .int .i64 0, .bool false, .int .i64 0, .string (⟨#[]⟩ : ByteArray), .bool false, .int .i64 0, .string (⟨#[]⟩ : ByteArray)] 33 (0, 0))) ∧ Aa (w'.heap[gb410]? = some (.cells #[.int .i64 (l0.length : Int), .int .i64 x411001_1, .bool x411002_1, .int .i64 x411003_1, .string x411004_1, .bool x411005_1, .int .i64 x411006_1, .string x411007_1] 33 (0, 0))) ∧ Aa (Below w.heap.size w w'))
 case atStart => exact ⟨(0), (0), (false), (0), ((⟨#[]⟩ : ByteArray)), (false), (0), ((⟨#[]⟩ : ByteArray)), (by first | rfl | (simp; done) | (simp [*]; done)), H', ⟨Nat.le_refl _⟩, ⟨by (iterate 8 ((with_reducible repeat (first | refine Ag ?_ _ | refine Af ?_ | refine Ae ?_ _)); refine Bv ?_ NB409_410.out _)); (with_reducible repeat (first | refine Ag ?_ _ | refine Af ?_ | refine Ae ?_ _)); exact BK409.out⟩, ⟨by (with_reducible repeat (first | refine Ag ?_ _ | refine Af ?_ | refine Ae ?_ _)); apply blk_all8_; (with_reducible repeat (first | refine Ag ?_ _ | refine Af ?_ | refine Ae ?_ _)); exact BK410.out⟩, ⟨by repeat (first | (with_reducible first | exact HB.out | apply Ak | apply Ah | apply Aj | refine Ao ?_ GE409.out | refine Ao ?_ GE410.out) | exact HB.out)⟩⟩
 case round =>(
 clear H'
 try clear C5_0 C5_1 C5_2 C5_3 C5_4 C5_5 C5_6 C5_7
 try clear F5_0 F5_1 F5_2 F5_3 F5_4 F5_5 F5_6 F5_7
 obtain ⟨x4_1, x411001_1, x411002_1, x411003_1, x411004_1, x411005_1, x411006_1, x411007_1, rfl, HA, HK1, BK409, BK410, HB⟩ := hrel
 cases gk with
 | zero => exact absurd HA.out (by simp [Am.l0])
 | succ k1 =>(
 have H := HA.out
 clear HA
 simp only [Am.l0] at H
 by_cases c6 : x4_1 < (l0.length : Int)
 ·(
 rw [if_pos c6] at H
 have c6b0 : decide (x4_1 < (l0.length : Int)) = true := decide_eq_true c6
 clear c6
 by_cases c7 : 0 ≤ x4_1
 ·(
 rw [if_pos c7] at H
 have c7b0 : decide (0 ≤ x4_1) = true := decide_eq_true c7
 clear c7
 obtain ⟨bq8, hbq8⟩ : ∃ b_ : Bool, b_ = ((Ax l0 x4_1).f0) := ⟨_, rfl⟩
 replace H : (if bq8 = true then (Am.l0 k1 l0 (wrap64 (x4_1 + 1)) (l0.length : Int) (wrap64 (x411001_1 + 1)) x411002_1 x411003_1 x411004_1 x411005_1 x411006_1 x411007_1) else (if x411001_1 = x4_1 then (Am.j1 k1 l0 x4_1 (x411001_1 == x4_1) true (l0.length : Int) x411001_1 x411002_1 x411003_1 x411004_1 x411005_1 x411006_1 x411007_1) else ((Bb.f k1 (bq8) ((Ax l0 x4_1).f1) ((Ax l0 x4_1).f2) x411002_1 x411003_1 x411004_1).bind fun t413 => (Am.j1 k1 l0 x4_1 (x411001_1 == x4_1) (decide (t413 < 0)) (l0.length : Int) x411001_1 x411002_1 x411003_1 x411004_1 x411005_1 x411006_1 x411007_1)))) = some (r1, r2, r3, r4, r5, r6, r7, r8) := by rw [← hbq8] at H; exact H
 have Nbq8 := Aa.mk hbq8
 clear hbq8
 by_cases c9 : bq8 = true
 ·(
 subst c9
 have H1 : (Am.l0 k1 l0 (wrap64 (x4_1 + 1)) (l0.length : Int) (wrap64 (x411001_1 + 1)) x411002_1 x411003_1 x411004_1 x411005_1 x411006_1 x411007_1) = some (r1, r2, r3, r4, r5, r6, r7, r8) := by rw [if_pos rfl] at H; exact H
 clear H
 have H := H1
 clear H1
 have H' := Aa.mk H
 clear H
 have p411 : 0 ≤ (x4_1 : Int) := dt_
 have q411 : x4_1 < (l0.length : Int) := dt_
 obtain ⟨ad411, e411, hx411_0, hx411_1, hx411_2⟩ := at_T24 HR0.out x4_1 p411 q411
 (try rw [← Nbq8.out] at hx411_0)
 cases e411
 replace hx411_0 := hc_ HB hx411_0
 replace hx411_1 := hc_ HB hx411_1
 replace hx411_2 := hc_ HB hx411_2
 replace p411 := eq_true p411
 replace q411 := eq_true q411
 have hnb10 := NB410_409.out
 have hnc10 := NB409_410.out
 obtain ⟨C11_0, C11_1, C11_2, C11_3, C11_4, C11_5, C11_6, C11_7⟩ := cz8_ BK410.out
 obtain ⟨F11_0, F11_1, F11_2, F11_3, F11_4, F11_5, F11_6, F11_7⟩ := fz8_ BK410.out
 go_wp2
 go_roundg k1
 case measure => have := HK1.out; omega
 case rel => exact ⟨(wrap64 (x4_1 + 1)), (wrap64 (x411001_1 + 1)), (x411002_1), (x411003_1), (x411004_1), (x411005_1), (x411006_1), (x411007_1), (by first | rfl | (simp; done) | (simp [*]; done)), H', ⟨by have := HK1.out; omega⟩, ⟨by (with_reducible repeat (first | refine Ag ?_ _ | refine Af ?_ | refine Ae ?_ _)); refine Bv ?_ NB409_410.out _; (with_reducible repeat (first | refine Ag ?_ _ | refine Af ?_ | refine Ae ?_ _)); exact BK409.out⟩, ⟨by (with_reducible repeat (first | refine Ag ?_ _ | refine Af ?_ | refine Ae ?_ _)); refine Bs (cs := #[.int .i64 (l0.length : Int), .int .i64 x411001_1, .bool x411002_1, .int .i64 x411003_1, .string x411004_1, .bool x411005_1, .int .i64 x411006_1, .string x411007_1]) ?_ 1 _ rfl; (with_reducible repeat (first | refine Ag ?_ _ | refine Af ?_ | refine Ae ?_ _)); exact BK410.out⟩, ⟨by repeat (first | (with_reducible first | exact HB.out | apply Ak | apply Ah | apply Aj | refine Ao ?_ GE409.out | refine Ao ?_ GE410.out) | exact HB.out)⟩⟩)
 ·(
 replace c9 := Dq c9
 subst c9
 have H1 : (if x411001_1 = x4_1 then (Am.j1 k1 l0 x4_1 (x411001_1 == x4_1) true (l0.length : Int) x411001_1 x411002_1 x411003_1 x411004_1 x411005_1 x411006_1 x411007_1) else ((Bb.f k1 (false) ((Ax l0 x4_1).f1) ((Ax l0 x4_1).f2) x411002_1 x411003_1 x411004_1).bind fun t413 => (Am.j1 k1 l0 x4_1 (x411001_1 == x4_1) (decide (t413 < 0)) (l0.length : Int) x411001_1 x411002_1 x411003_1 x411004_1 x411005_1 x411006_1 x411007_1))) = some (r1, r2, r3, r4, r5, r6, r7, r8) := by rw [if_neg (show ¬ (false = true) by decide)] at H; exact H
 clear H
 have H := H1
 clear H1
 have HC12 := Aa.mk H
 clear H
 have p411 : 0 ≤ (x4_1 : Int) := dt_
 have q411 : x4_1 < (l0.length : Int) := dt_
 obtain ⟨ad411, e411, hx411_0, hx411_1, hx411_2⟩ := at_T24 HR0.out x4_1 p411 q411
 (try rw [← Nbq8.out] at hx411_0)
 cases e411
 replace hx411_0 := hc_ HB hx411_0
 replace hx411_1 := hc_ HB hx411_1
 replace hx411_2 := hc_ HB hx411_2
 replace p411 := eq_true p411
 replace q411 := eq_true q411
 have hnb13 := NB410_409.out
 have hnc13 := NB409_410.out
 obtain ⟨C14_0, C14_1, C14_2, C14_3, C14_4, C14_5, C14_6, C14_7⟩ := cz8_ BK410.out
 obtain ⟨F14_0, F14_1, F14_2, F14_3, F14_4, F14_5, F14_6, F14_7⟩ := fz8_ BK410.out
 go_upto_region 8 with (fail)
 go_cut [5, 38] (fun v5 v38 wc => ∃ (kq : Nat) (x38_11 : Bool), v5 = .bool (x411001_1 == x4_1) ∧ v38 = .bool x38_11 ∧ Aa (Am.j1 kq l0 x4_1 (x411001_1 == x4_1) x38_11 (l0.length : Int) x411001_1 x411002_1 x411003_1 x411004_1 x411005_1 x411006_1 x411007_1 = some (r1, r2, r3, r4, r5, r6, r7, r8)) ∧ Aa (kq ≤ k1) ∧ Aa (wc.heap[gb409]? = some (.cells #[.int .i64 0, .int .i64 0, .bool false, .int .i64 0, .string (⟨#[]⟩ : ByteArray), .bool false, .int .i64 0, .string (⟨#[]⟩ : ByteArray)] 33 (0, 0))) ∧ Aa (wc.heap[gb410]? = some (.cells #[.int .i64 (l0.length : Int), .int .i64 x411001_1, .bool x411002_1, .int .i64 x411003_1, .string x411004_1, .bool x411005_1, .int .i64 x411006_1, .string x411007_1] 33 (0, 0))) ∧ Aa (Below w.heap.size w wc))
 case first =>(
 have H := HC12.out
 clear HC12
 by_cases c15 : x411001_1 = x4_1
 ·(
 rw [if_pos c15] at H
 have c15b0 : (x411001_1 == x4_1) = true := Dl c15
 have c15b1 : (x411001_1 != x4_1) = false := Dk c15
 clear c15
 (first | rw [c15b0] | (simp only [i64_w, i32_w]; rw [c15b0]) | skip)
 have H' := Aa.mk H
 clear H
 try go_wp2
 replace BK409 := Aa.mk (Af BK409.out); replace BK410 := Aa.mk (Af BK410.out); replace HB := Aa.mk (Aj HB.out)
 refine start_ (n := 11) (S := fun w' => True) (ds := []) #[false, false, false, false, false, false, false, false, false, false, false] (by kernel_rfl) rfl rfl trivial (fun hHeld => ?_); refine with_tabW Am.tab8 Am.bits8 (fun HT_ HW_ => ?_)
 generalize wr.drew = w16 at BK409 BK410 HB hHeld ⊢
 refine pu_ 0 (some 28) (bl_ 11 1) ?_
 refine pu_ 1 (some 29) (bl_ 11 3) ?_
 refine pure_ (i := 2) (N := some 30) (v := undef) (a' := ?_) #[true, true, true, false, false, false, false, false, false, false, false] rfl rfl (any_of HT_.out (by kernel_rfl)) (fun _ _ _ h => h) (Or.inr ⟨by rfl, rfl⟩) ?_ ?_
 rotate_left
 ·(
 simp only [Act.put, List.setIfInBounds_toArray, List.set_cons_zero, List.set_cons_succ, i64_w, i32_w]
 rfl)
 refine pure_ (i := 3) (N := some 31) (v := undef) (a' := ?_) #[true, true, true, true, false, false, false, false, false, false, false] rfl rfl (any_of HT_.out (by kernel_rfl)) (fun _ _ _ h => h) (Or.inr ⟨by rfl, rfl⟩) ?_ ?_
 rotate_left
 ·(
 simp only [Act.put, List.setIfInBounds_toArray, List.set_cons_zero, List.set_cons_succ, i64_w, i32_w]
 rfl)
 refine pure_ (i := 4) (N := some 32) (v := undef) (a' := ?_) #[true, true, true, true, true, false, false, false, false, false, false] rfl rfl (any_of HT_.out (by kernel_rfl)) (fun _ _ _ h => h) (Or.inr ⟨by rfl, rfl⟩) ?_ ?_
 rotate_left
 ·(
 simp only [Act.put, List.setIfInBounds_toArray, List.set_cons_zero, List.set_cons_succ, i64_w, i32_w]
 rfl)
 refine pure_ (i := 5) (N := some 33) (v := undef) (a' := ?_) #[true, true, true, true, true, true, false, false, false, false, false] rfl rfl (any_of HT_.out (by kernel_rfl)) (fun _ _ _ h => h) (Or.inr ⟨by rfl, rfl⟩) ?_ ?_
 rotate_left
 ·(
 simp only [Act.put, List.setIfInBounds_toArray, List.set_cons_zero, List.set_cons_succ, i64_w, i32_w]
 rfl)
 refine pure_ (i := 6) (N := some 34) (v := undef) (a' := ?_) #[true, true, true, true, true, true, true, false, false, false, false] rfl rfl (any_of HT_.out (by kernel_rfl)) (fun _ _ _ h => h) (Or.inr ⟨by rfl, rfl⟩) ?_ ?_
 rotate_left
 ·(
 simp only [Act.put, List.setIfInBounds_toArray, List.set_cons_zero, List.set_cons_succ, i64_w, i32_w]
 rfl)
 refine pure_ (i := 7) (N := some 35) (v := undef) (a' := ?_) #[true, true, true, true, true, true, true, true, false, false, false] rfl rfl (any_of HT_.out (by kernel_rfl)) (fun _ _ _ h => h) (Or.inr ⟨by rfl, rfl⟩) ?_ ?_
 rotate_left
 ·(
 simp only [Act.put, List.setIfInBounds_toArray, List.set_cons_zero, List.set_cons_succ, i64_w, i32_w]
 rfl)
 refine pure_ (i := 8) (N := some 36) (v := undef) (a' := ?_) #[true, true, true, true, true, true, true, true, true, false, false] rfl rfl (any_of HT_.out (by kernel_rfl)) (fun _ _ _ h => h) (Or.inr ⟨by rfl, rfl⟩) ?_ ?_
 rotate_left
 ·(
 simp only [Act.put, List.setIfInBounds_toArray, List.set_cons_zero, List.set_cons_succ, i64_w, i32_w]
 rfl)
 refine pure_ (i := 9) (N := some 37) (v := undef) (a' := ?_) #[true, true, true, true, true, true, true, true, true, true, false] rfl rfl (any_of HT_.out (by kernel_rfl)) (fun _ _ _ h => h) (Or.inr ⟨by rfl, rfl⟩) ?_ ?_
 rotate_left
 ·(
 simp only [Act.put, List.setIfInBounds_toArray, List.set_cons_zero, List.set_cons_succ, i64_w, i32_w]
 rfl)
 refine pu_ 10 (some 38) (bl_ 11 2047) ?_
 refine done_ (done_of HT_.out (by kernel_rfl)) ?_
 try go_wp2
 go_meet
 case rel => exact ⟨_, (true), (by first | rfl | (simp; done) | (simp [*]; done)), (by first | rfl | (simp; done) | (simp [*]; done)), H', ⟨by have := HK1.out; first | omega | exact Nat.le_refl _⟩, ⟨by (with_reducible repeat (first | refine Ag ?_ _ | refine Af ?_ | refine Ae ?_ _)); exact BK409.out⟩, ⟨by (with_reducible repeat (first | refine Ag ?_ _ | refine Af ?_ | refine Ae ?_ _)); exact BK410.out⟩, ⟨by repeat (first | (with_reducible first | exact HB.out | apply Ak | apply Ah | apply Aj | refine Ao ?_ GE409.out | refine Ao ?_ GE410.out) | exact HB.out)⟩⟩)
 ·(
 rw [if_neg c15] at H
 have c15b0 : (x411001_1 == x4_1) = false := Dj c15
 have c15b1 : (x411001_1 != x4_1) = true := Dm c15
 (first | rw [c15b0] | (simp only [i64_w, i32_w]; rw [c15b0]) | skip)
 replace H := Dn H
 obtain ⟨t413, A170, H⟩ := H
 replace H : (Am.j1 k1 l0 x4_1 (x411001_1 == x4_1) (decide (t413 < 0)) (l0.length : Int) x411001_1 x411002_1 x411003_1 x411004_1 x411005_1 x411006_1 x411007_1) = some (r1, r2, r3, r4, r5, r6, r7, r8) := H
 have A17 := Aa.mk A170
 clear A170
 have H' := Aa.mk H
 clear H
 try go_wp2
 replace BK409 := Aa.mk (Af BK409.out); replace BK410 := Aa.mk (Af BK410.out); replace HB := Aa.mk (Aj HB.out)
 have p412 : 0 ≤ (x4_1 : Int) := dt_
 have q412 : x4_1 < (l0.length : Int) := dt_
 obtain ⟨ad412, e412, hx412_0, hx412_1, hx412_2⟩ := at_T24 HR0.out x4_1 p412 q412
 have hw412_2 := hx412_2
 have hw412_1 := hx412_1
 (try rw [← Nbq8.out] at hx412_0)
 have hw412_0 := hx412_0
 obtain rfl : ad411 = ad412 := (by injection e412)
 replace hx412_0 := hc_ HB hx412_0
 replace hx412_1 := hc_ HB hx412_1
 replace hx412_2 := hc_ HB hx412_2
 replace p412 := eq_true p412
 replace q412 := eq_true q412
 refine start_ (n := 11) (S := fun w' => w'.cell? ⟨gb410, 0, none⟩ = some (.int .i64 (l0.length : Int)) ∧ w'.cell? ⟨gb410, 1, none⟩ = some (.int .i64 x411001_1) ∧ w'.cell? ⟨gb410, 2, none⟩ = some (.bool x411002_1) ∧ w'.cell? ⟨gb410, 3, none⟩ = some (.int .i64 x411003_1) ∧ w'.cell? ⟨gb410, 4, none⟩ = some (.string x411004_1) ∧ w'.cell? ⟨gb410, 5, none⟩ = some (.bool x411005_1) ∧ w'.cell? ⟨gb410, 6, none⟩ = some (.int .i64 x411006_1) ∧ w'.cell? ⟨gb410, 7, none⟩ = some (.string x411007_1) ∧ w'.cell? (ad411.add ((x4_1).toNat * 3)) = some (.bool (false)) ∧ w'.cell? ⟨(ad411.add ((x4_1).toNat * 3)).block, (ad411.add ((x4_1).toNat * 3)).off + 1, none⟩ = some (.int .i64 ((Ax l0 x4_1).f1)) ∧ w'.cell? ⟨(ad411.add ((x4_1).toNat * 3)).block, (ad411.add ((x4_1).toNat * 3)).off + 2, none⟩ = some (.string ((Ax l0 x4_1).f2))) (ds := []) #[false, false, false, false, false, false, false, false, false, false, false] (by kernel_rfl) rfl rfl ⟨(Ab BK410.out 0).trans rfl, (Ab BK410.out 1).trans rfl, (Ab BK410.out 2).trans rfl, (Ab BK410.out 3).trans rfl, (Ab BK410.out 4).trans rfl, (Ab BK410.out 5).trans rfl, (Ab BK410.out 6).trans rfl, (Ab BK410.out 7).trans rfl, ((HB.out.cell (World.block_lt_of_cell? w _ hw412_0)).trans hw412_0), ((HB.out.cell (World.block_lt_of_cell? w _ hw412_1)).trans hw412_1), ((HB.out.cell (World.block_lt_of_cell? w _ hw412_2)).trans hw412_2)⟩ (fun hHeld => ?_); refine with_tabW Am.tab8 Am.bits8 (fun HT_ HW_ => ?_)
 generalize wr.drew = w18 at BK409 BK410 HB hx412_0 hx412_1 hx412_2 hHeld ⊢
 refine pu_ 0 (some 28) (bl_ 11 1) ?_
 refine pu_ 1 (some 29) (bl_ 11 3) ?_
 refine pu_ 2 (some 30) (bl_ 11 7) ?_
 refine pu_ 3 (some 31) (bl_ 11 15) ?_
 refine pu_ 4 (some 32) (bl_ 11 31) ?_
 refine pu_ 6 (some 34) (bl_ 11 95) ?_
 refine ta_ 5 (some 33) (bl_ 11 127) hHeld ?_
 refine ta_ 7 (some 35) (bl_ 11 255) hHeld ?_
 refine one_ (i := 8) (N := some 36) #[true, true, true, true, true, true, true, true, true, false, false] rfl rfl (one_of HT_.out (by kernel_rfl)) (by decide) (fun K hK => ?_)
 refine gs_ Try.func35 #[.agg #[.bool false, .int .i64 ((Ax l0 x4_1).f1), .string ((Ax l0 x4_1).f2)], .agg #[.bool x411002_1, .int .i64 x411003_1, .string x411004_1]] ?_
 with_reducible refine (Bb.calls k1 false ((Ax l0 x4_1).f1) ((Ax l0 x4_1).f2) x411002_1 x411003_1 x411004_1 t413 _ A17.out).mono ?_
 rintro e w19 ⟨rfl, hb⟩
 refine ⟨_, rfl, ?_⟩
 replace BK409 := bk_ BK409 hb; replace BK410 := bk_ BK410 hb; replace HB := bs_ HB hb
 (try clear hb)
 refine hK.out _ _ ⟨(Ab BK410.out 0).trans rfl, (Ab BK410.out 1).trans rfl, (Ab BK410.out 2).trans rfl, (Ab BK410.out 3).trans rfl, (Ab BK410.out 4).trans rfl, (Ab BK410.out 5).trans rfl, (Ab BK410.out 6).trans rfl, (Ab BK410.out 7).trans rfl, ((HB.out.cell (World.block_lt_of_cell? w _ hw412_0)).trans hw412_0), ((HB.out.cell (World.block_lt_of_cell? w _ hw412_1)).trans hw412_1), ((HB.out.cell (World.block_lt_of_cell? w _ hw412_2)).trans hw412_2)⟩ (fun hHeld => ?_)
 clear hK K
 refine norm_ (a' := ?_) ?_ ?_
 rotate_left
 ·(
 show Act.put _ (some 36) _ = _
 simp only [Act.put, List.setIfInBounds_toArray, List.set_cons_zero, List.set_cons_succ, i64_w, i32_w]
 rfl)
 refine pu_ 9 (some 37) (bl_ 11 1023) ?_
 refine pu_ 10 (some 38) (bl_ 11 2047) ?_
 refine done_ (done_of HT_.out (by kernel_rfl)) ?_
 try go_wp2
 go_meet
 case rel => exact ⟨_, (decide (t413 < 0)), (by first | rfl | (simp; done) | (simp [*]; done)), (by first | rfl | (simp; done) | (simp [*]; done)), H', ⟨by have := HK1.out; first | omega | exact Nat.le_refl _⟩, ⟨by (with_reducible repeat (first | refine Ag ?_ _ | refine Af ?_ | refine Ae ?_ _)); exact BK409.out⟩, ⟨by (with_reducible repeat (first | refine Ag ?_ _ | refine Af ?_ | refine Ae ?_ _)); exact BK410.out⟩, ⟨by repeat (first | (with_reducible first | exact HB.out | apply Ak | apply Ah | apply Aj | refine Ao ?_ GE409.out | refine Ao ?_ GE410.out) | exact HB.out)⟩⟩))
 case rest =>(
 clear HC12
 try clear c6
 try clear c6b0
 try clear c7
 try clear c7b0
 try clear c9
 try clear c15
 try clear c15b0
 try clear c15b1
 try clear C11_0 C11_1 C11_2 C11_3 C11_4 C11_5 C11_6 C11_7
 try clear C14_0 C14_1 C14_2 C14_3 C14_4 C14_5 C14_6 C14_7
 try clear C5_0 C5_1 C5_2 C5_3 C5_4 C5_5 C5_6 C5_7
 try clear F11_0 F11_1 F11_2 F11_3 F11_4 F11_5 F11_6 F11_7
 try clear F14_0 F14_1 F14_2 F14_3 F14_4 F14_5 F14_6 F14_7
 try clear F5_0 F5_1 F5_2 F5_3 F5_4 F5_5 F5_6 F5_7
 try clear hx411_0
 try clear hx411_1
 try clear hx411_2
 try clear hx412_0
 try clear hx412_1
 try clear hx412_2
 try clear p411
 try clear p412
 try clear q411
 try clear q412
 obtain ⟨kq, x38_11, rfl, rfl, HA, HJ11, BK409, BK410, HB⟩ := hcut
 cases kq with
 | zero => exact absurd HA.out (by simp [Am.j1])
 | succ kj11 =>(
 have H := HA.out
 clear HA
 simp only [Am.j1] at H
 (try simp only [← Nbq8.out] at H)
 by_cases c20 : x38_11 = true
 ·(
 subst c20
 have H1 : (if 0 ≤ x4_1 then (if x4_1 < (l0.length : Int) then (if (x411001_1 == x4_1) = true then (Am.l0 kj11 l0 (wrap64 (x4_1 + 1)) (l0.length : Int) x411001_1 (false) ((Ax l0 x4_1).f1) ((Ax l0 x4_1).f2) (false) ((Ax l0 x4_1).f1) ((Ax l0 x4_1).f2)) else ((Bb.f kj11 (false) ((Ax l0 x4_1).f1) ((Ax l0 x4_1).f2) x411005_1 x411006_1 x411007_1).bind fun t417 => (if t417 > 0 then (Am.l0 kj11 l0 (wrap64 (x4_1 + 1)) (l0.length : Int) x411001_1 (false) ((Ax l0 x4_1).f1) ((Ax l0 x4_1).f2) (false) ((Ax l0 x4_1).f1) ((Ax l0 x4_1).f2)) else (Am.l0 kj11 l0 (wrap64 (x4_1 + 1)) (l0.length : Int) x411001_1 (false) ((Ax l0 x4_1).f1) ((Ax l0 x4_1).f2) x411005_1 x411006_1 x411007_1)))) else (none)) else (none)) = some (r1, r2, r3, r4, r5, r6, r7, r8) := by rw [if_pos rfl] at H; exact H
 clear H
 have H := H1
 clear H1
 by_cases c21 : 0 ≤ x4_1
 ·(
 rw [if_pos c21] at H
 have c21b0 : decide (0 ≤ x4_1) = true := decide_eq_true c21
 clear c21
 by_cases c22 : x4_1 < (l0.length : Int)
 ·(
 rw [if_pos c22] at H
 have c22b0 : decide (x4_1 < (l0.length : Int)) = true := decide_eq_true c22
 clear c22
 by_cases c23 : (x411001_1 == x4_1) = true
 ·(
 rw [if_pos c23] at H
 have c23b0 : (x411001_1 == x4_1) = true := c23
 (try (have c23b1 : decide (x411001_1 = x4_1) = true := by simpa using c23))
 (try (have c23b2 : (x411001_1 == x4_1) = true := by simpa using c23))
 clear c23
 have H' := Aa.mk H
 clear H
 have p414 : 0 ≤ (x4_1 : Int) := dt_
 have q414 : x4_1 < (l0.length : Int) := dt_
 obtain ⟨ad414, e414, hx414_0, hx414_1, hx414_2⟩ := at_T24 HR0.out x4_1 p414 q414
 (try rw [← Nbq8.out] at hx414_0)
 obtain rfl : ad411 = ad414 := (by injection e414)
 replace hx414_0 := hc_ HB hx414_0
 replace hx414_1 := hc_ HB hx414_1
 replace hx414_2 := hc_ HB hx414_2
 replace p414 := eq_true p414
 replace q414 := eq_true q414
 have hnb24 := NB410_409.out
 have hnc24 := NB409_410.out
 obtain ⟨C25_0, C25_1, C25_2, C25_3, C25_4, C25_5, C25_6, C25_7⟩ := cz8_ BK410.out
 obtain ⟨F25_0, F25_1, F25_2, F25_3, F25_4, F25_5, F25_6, F25_7⟩ := fz8_ BK410.out
 try go_wp2
 have n0_ : Aa ((((wc.setCell ⟨gb410, 2, none⟩ (.bool (false))).setCell ⟨gb410, 3, none⟩ (.int .i64 ((Ax l0 x4_1).f1))).setCell ⟨gb410, 4, none⟩ (.string ((Ax l0 x4_1).f2))).heap[gb409]? = some (.cells #[.int .i64 0, .int .i64 0, .bool false, .int .i64 0, .string (⟨#[]⟩ : ByteArray), .bool false, .int .i64 0, .string (⟨#[]⟩ : ByteArray)] 33 (0, 0))) := ⟨by (iterate 3 ((with_reducible repeat (first | refine Ag ?_ _ | refine Af ?_ | refine Ae ?_ _)); refine Bv ?_ NB409_410.out _)); (with_reducible repeat (first | refine Ag ?_ _ | refine Af ?_ | refine Ae ?_ _)); exact BK409.out⟩
 have n1_ : Aa ((((wc.setCell ⟨gb410, 2, none⟩ (.bool (false))).setCell ⟨gb410, 3, none⟩ (.int .i64 ((Ax l0 x4_1).f1))).setCell ⟨gb410, 4, none⟩ (.string ((Ax l0 x4_1).f2))).heap[gb410]? = some (.cells #[.int .i64 (l0.length : Int), .int .i64 x411001_1, .bool (false), .int .i64 ((Ax l0 x4_1).f1), .string ((Ax l0 x4_1).f2), .bool x411005_1, .int .i64 x411006_1, .string x411007_1] 33 (0, 0))) := ⟨by (with_reducible repeat (first | refine Ag ?_ _ | refine Af ?_ | refine Ae ?_ _)); refine Bs (cs := #[.int .i64 (l0.length : Int), .int .i64 x411001_1, .bool (false), .int .i64 ((Ax l0 x4_1).f1), .string x411004_1, .bool x411005_1, .int .i64 x411006_1, .string x411007_1]) ?_ 4 _ rfl; (with_reducible repeat (first | refine Ag ?_ _ | refine Af ?_ | refine Ae ?_ _)); refine Bs (cs := #[.int .i64 (l0.length : Int), .int .i64 x411001_1, .bool (false), .int .i64 x411003_1, .string x411004_1, .bool x411005_1, .int .i64 x411006_1, .string x411007_1]) ?_ 3 _ rfl; (with_reducible repeat (first | refine Ag ?_ _ | refine Af ?_ | refine Ae ?_ _)); refine Bs (cs := #[.int .i64 (l0.length : Int), .int .i64 x411001_1, .bool x411002_1, .int .i64 x411003_1, .string x411004_1, .bool x411005_1, .int .i64 x411006_1, .string x411007_1]) ?_ 2 _ rfl; (with_reducible repeat (first | refine Ag ?_ _ | refine Af ?_ | refine Ae ?_ _)); exact BK410.out⟩
 have n2_ : Aa (Below w.heap.size w (((wc.setCell ⟨gb410, 2, none⟩ (.bool (false))).setCell ⟨gb410, 3, none⟩ (.int .i64 ((Ax l0 x4_1).f1))).setCell ⟨gb410, 4, none⟩ (.string ((Ax l0 x4_1).f2)))) := ⟨by repeat (first | (with_reducible first | exact HB.out | apply Ak | apply Ah | apply Aj | refine Ao ?_ GE409.out | refine Ao ?_ GE410.out) | exact HB.out)⟩
 (try clear BK409)
 (try clear BK410)
 (try clear HB)
 generalize (((wc.setCell ⟨gb410, 2, none⟩ (.bool (false))).setCell ⟨gb410, 3, none⟩ (.int .i64 ((Ax l0 x4_1).f1))).setCell ⟨gb410, 4, none⟩ (.string ((Ax l0 x4_1).f2))) = w26 at n0_ n1_ n2_ ⊢
 have BK409 := n0_
 have BK410 := n1_
 have HB := n2_
 clear n0_ n1_ n2_
 replace BK409 := Aa.mk (Af BK409.out); replace BK410 := Aa.mk (Af BK410.out); replace HB := Aa.mk (Aj HB.out)
 refine start_ (n := 11) (S := fun w' => True) (ds := []) #[false, false, false, false, false, false, false, false, false, false, false] (by kernel_rfl) rfl rfl trivial (fun hHeld => ?_); refine with_tabW Am.tab10 Am.bits10 (fun HT_ HW_ => ?_)
 generalize w26.drew = w27 at BK409 BK410 HB hHeld ⊢
 refine pu_ 0 (some 44) (bl_ 11 1) ?_
 refine pu_ 1 (some 45) (bl_ 11 3) ?_
 refine pure_ (i := 2) (N := some 46) (v := undef) (a' := ?_) #[true, true, true, false, false, false, false, false, false, false, false] rfl rfl (any_of HT_.out (by kernel_rfl)) (fun _ _ _ h => h) (Or.inr ⟨by rfl, rfl⟩) ?_ ?_
 rotate_left
 ·(
 simp only [Act.put, List.setIfInBounds_toArray, List.set_cons_zero, List.set_cons_succ, i64_w, i32_w]
 rfl)
 refine pure_ (i := 3) (N := some 47) (v := undef) (a' := ?_) #[true, true, true, true, false, false, false, false, false, false, false] rfl rfl (any_of HT_.out (by kernel_rfl)) (fun _ _ _ h => h) (Or.inr ⟨by rfl, rfl⟩) ?_ ?_
 rotate_left
 ·(
 simp only [Act.put, List.setIfInBounds_toArray, List.set_cons_zero, List.set_cons_succ, i64_w, i32_w]
 rfl)
 refine pure_ (i := 4) (N := some 48) (v := undef) (a' := ?_) #[true, true, true, true, true, false, false, false, false, false, false] rfl rfl (any_of HT_.out (by kernel_rfl)) (fun _ _ _ h => h) (Or.inr ⟨by rfl, rfl⟩) ?_ ?_
 rotate_left
 ·(
 simp only [Act.put, List.setIfInBounds_toArray, List.set_cons_zero, List.set_cons_succ, i64_w, i32_w]
 rfl)
 refine pure_ (i := 5) (N := some 49) (v := undef) (a' := ?_) #[true, true, true, true, true, true, false, false, false, false, false] rfl rfl (any_of HT_.out (by kernel_rfl)) (fun _ _ _ h => h) (Or.inr ⟨by rfl, rfl⟩) ?_ ?_
 rotate_left
 ·(
 simp only [Act.put, List.setIfInBounds_toArray, List.set_cons_zero, List.set_cons_succ, i64_w, i32_w]
 rfl)
 refine pure_ (i := 6) (N := some 50) (v := undef) (a' := ?_) #[true, true, true, true, true, true, true, false, false, false, false] rfl rfl (any_of HT_.out (by kernel_rfl)) (fun _ _ _ h => h) (Or.inr ⟨by rfl, rfl⟩) ?_ ?_
 rotate_left
 ·(
 simp only [Act.put, List.setIfInBounds_toArray, List.set_cons_zero, List.set_cons_succ, i64_w, i32_w]
 rfl)
 refine pure_ (i := 7) (N := some 51) (v := undef) (a' := ?_) #[true, true, true, true, true, true, true, true, false, false, false] rfl rfl (any_of HT_.out (by kernel_rfl)) (fun _ _ _ h => h) (Or.inr ⟨by rfl, rfl⟩) ?_ ?_
 rotate_left
 ·(
 simp only [Act.put, List.setIfInBounds_toArray, List.set_cons_zero, List.set_cons_succ, i64_w, i32_w]
 rfl)
 refine pure_ (i := 8) (N := some 52) (v := undef) (a' := ?_) #[true, true, true, true, true, true, true, true, true, false, false] rfl rfl (any_of HT_.out (by kernel_rfl)) (fun _ _ _ h => h) (Or.inr ⟨by rfl, rfl⟩) ?_ ?_
 rotate_left
 ·(
 simp only [Act.put, List.setIfInBounds_toArray, List.set_cons_zero, List.set_cons_succ, i64_w, i32_w]
 rfl)
 refine pure_ (i := 9) (N := some 53) (v := undef) (a' := ?_) #[true, true, true, true, true, true, true, true, true, true, false] rfl rfl (any_of HT_.out (by kernel_rfl)) (fun _ _ _ h => h) (Or.inr ⟨by rfl, rfl⟩) ?_ ?_
 rotate_left
 ·(
 simp only [Act.put, List.setIfInBounds_toArray, List.set_cons_zero, List.set_cons_succ, i64_w, i32_w]
 rfl)
 refine pu_ 10 (some 54) (bl_ 11 2047) ?_
 refine done_ (done_of HT_.out (by kernel_rfl)) ?_
 have p415 : 0 ≤ (x4_1 : Int) := dt_
 have q415 : x4_1 < (l0.length : Int) := dt_
 obtain ⟨ad415, e415, hx415_0, hx415_1, hx415_2⟩ := at_T24 HR0.out x4_1 p415 q415
 (try rw [← Nbq8.out] at hx415_0)
 obtain rfl : ad411 = ad415 := (by injection e415)
 replace hx415_0 := hc_ HB hx415_0
 replace hx415_1 := hc_ HB hx415_1
 replace hx415_2 := hc_ HB hx415_2
 replace p415 := eq_true p415
 replace q415 := eq_true q415
 obtain ⟨C28_0, C28_1, C28_2, C28_3, C28_4, C28_5, C28_6, C28_7⟩ := cz8_ BK410.out
 obtain ⟨F28_0, F28_1, F28_2, F28_3, F28_4, F28_5, F28_6, F28_7⟩ := fz8_ BK410.out
 try go_wp2
 go_roundg kj11
 case measure => have := HK1.out; have := HJ11.out; omega
 case rel => exact ⟨(wrap64 (x4_1 + 1)), (x411001_1), (false), ((Ax l0 x4_1).f1), ((Ax l0 x4_1).f2), (false), ((Ax l0 x4_1).f1), ((Ax l0 x4_1).f2), (by first | rfl | (simp; done) | (simp [*]; done)), H', ⟨by have := HK1.out; have := HJ11.out; omega⟩, ⟨by (iterate 3 ((with_reducible repeat (first | refine Ag ?_ _ | refine Af ?_ | refine Ae ?_ _)); refine Bv ?_ NB409_410.out _)); (with_reducible repeat (first | refine Ag ?_ _ | refine Af ?_ | refine Ae ?_ _)); exact BK409.out⟩, ⟨by (with_reducible repeat (first | refine Ag ?_ _ | refine Af ?_ | refine Ae ?_ _)); refine Bs (cs := #[.int .i64 (l0.length : Int), .int .i64 x411001_1, .bool (false), .int .i64 ((Ax l0 x4_1).f1), .string ((Ax l0 x4_1).f2), .bool (false), .int .i64 ((Ax l0 x4_1).f1), .string x411007_1]) ?_ 7 _ rfl; (with_reducible repeat (first | refine Ag ?_ _ | refine Af ?_ | refine Ae ?_ _)); refine Bs (cs := #[.int .i64 (l0.length : Int), .int .i64 x411001_1, .bool (false), .int .i64 ((Ax l0 x4_1).f1), .string ((Ax l0 x4_1).f2), .bool (false), .int .i64 x411006_1, .string x411007_1]) ?_ 6 _ rfl; (with_reducible repeat (first | refine Ag ?_ _ | refine Af ?_ | refine Ae ?_ _)); refine Bs (cs := #[.int .i64 (l0.length : Int), .int .i64 x411001_1, .bool (false), .int .i64 ((Ax l0 x4_1).f1), .string ((Ax l0 x4_1).f2), .bool x411005_1, .int .i64 x411006_1, .string x411007_1]) ?_ 5 _ rfl; (with_reducible repeat (first | refine Ag ?_ _ | refine Af ?_ | refine Ae ?_ _)); exact BK410.out⟩, ⟨by repeat (first | (with_reducible first | exact HB.out | apply Ak | apply Ah | apply Aj | refine Ao ?_ GE409.out | refine Ao ?_ GE410.out) | exact HB.out)⟩⟩)
 ·(
 rw [if_neg c23] at H
 have c23b0 : (x411001_1 == x4_1) = false := by simpa using c23
 (try (have c23b1 : decide (x411001_1 = x4_1) = false := by simpa using c23))
 (try (have c23b2 : (x411001_1 == x4_1) = false := by simpa using c23))
 (try (have c23b3 : ¬ (x411001_1 = x4_1) := by simpa using c23))
 clear c23
 replace H := Dn H
 obtain ⟨t417, A290, H⟩ := H
 replace H : (if t417 > 0 then (Am.l0 kj11 l0 (wrap64 (x4_1 + 1)) (l0.length : Int) x411001_1 (false) ((Ax l0 x4_1).f1) ((Ax l0 x4_1).f2) (false) ((Ax l0 x4_1).f1) ((Ax l0 x4_1).f2)) else (Am.l0 kj11 l0 (wrap64 (x4_1 + 1)) (l0.length : Int) x411001_1 (false) ((Ax l0 x4_1).f1) ((Ax l0 x4_1).f2) x411005_1 x411006_1 x411007_1)) = some (r1, r2, r3, r4, r5, r6, r7, r8) := H
 have A29 := Aa.mk A290
 clear A290
 by_cases c30 : t417 > 0
 ·(
 rw [if_pos c30] at H
 have c30b0 : decide (0 < t417) = true := decide_eq_true c30
 clear c30
 have H' := Aa.mk H
 clear H
 have p414 : 0 ≤ (x4_1 : Int) := dt_
 have q414 : x4_1 < (l0.length : Int) := dt_
 obtain ⟨ad414, e414, hx414_0, hx414_1, hx414_2⟩ := at_T24 HR0.out x4_1 p414 q414
 (try rw [← Nbq8.out] at hx414_0)
 obtain rfl : ad411 = ad414 := (by injection e414)
 replace hx414_0 := hc_ HB hx414_0
 replace hx414_1 := hc_ HB hx414_1
 replace hx414_2 := hc_ HB hx414_2
 replace p414 := eq_true p414
 replace q414 := eq_true q414
 have hnb31 := NB410_409.out
 have hnc31 := NB409_410.out
 obtain ⟨C32_0, C32_1, C32_2, C32_3, C32_4, C32_5, C32_6, C32_7⟩ := cz8_ BK410.out
 obtain ⟨F32_0, F32_1, F32_2, F32_3, F32_4, F32_5, F32_6, F32_7⟩ := fz8_ BK410.out
 try go_wp2
 have n0_ : Aa ((((wc.setCell ⟨gb410, 2, none⟩ (.bool (false))).setCell ⟨gb410, 3, none⟩ (.int .i64 ((Ax l0 x4_1).f1))).setCell ⟨gb410, 4, none⟩ (.string ((Ax l0 x4_1).f2))).heap[gb409]? = some (.cells #[.int .i64 0, .int .i64 0, .bool false, .int .i64 0, .string (⟨#[]⟩ : ByteArray), .bool false, .int .i64 0, .string (⟨#[]⟩ : ByteArray)] 33 (0, 0))) := ⟨by (iterate 3 ((with_reducible repeat (first | refine Ag ?_ _ | refine Af ?_ | refine Ae ?_ _)); refine Bv ?_ NB409_410.out _)); (with_reducible repeat (first | refine Ag ?_ _ | refine Af ?_ | refine Ae ?_ _)); exact BK409.out⟩
 have n1_ : Aa ((((wc.setCell ⟨gb410, 2, none⟩ (.bool (false))).setCell ⟨gb410, 3, none⟩ (.int .i64 ((Ax l0 x4_1).f1))).setCell ⟨gb410, 4, none⟩ (.string ((Ax l0 x4_1).f2))).heap[gb410]? = some (.cells #[.int .i64 (l0.length : Int), .int .i64 x411001_1, .bool (false), .int .i64 ((Ax l0 x4_1).f1), .string ((Ax l0 x4_1).f2), .bool x411005_1, .int .i64 x411006_1, .string x411007_1] 33 (0, 0))) := ⟨by (with_reducible repeat (first | refine Ag ?_ _ | refine Af ?_ | refine Ae ?_ _)); refine Bs (cs := #[.int .i64 (l0.length : Int), .int .i64 x411001_1, .bool (false), .int .i64 ((Ax l0 x4_1).f1), .string x411004_1, .bool x411005_1, .int .i64 x411006_1, .string x411007_1]) ?_ 4 _ rfl; (with_reducible repeat (first | refine Ag ?_ _ | refine Af ?_ | refine Ae ?_ _)); refine Bs (cs := #[.int .i64 (l0.length : Int), .int .i64 x411001_1, .bool (false), .int .i64 x411003_1, .string x411004_1, .bool x411005_1, .int .i64 x411006_1, .string x411007_1]) ?_ 3 _ rfl; (with_reducible repeat (first | refine Ag ?_ _ | refine Af ?_ | refine Ae ?_ _)); refine Bs (cs := #[.int .i64 (l0.length : Int), .int .i64 x411001_1, .bool x411002_1, .int .i64 x411003_1, .string x411004_1, .bool x411005_1, .int .i64 x411006_1, .string x411007_1]) ?_ 2 _ rfl; (with_reducible repeat (first | refine Ag ?_ _ | refine Af ?_ | refine Ae ?_ _)); exact BK410.out⟩
 have n2_ : Aa (Below w.heap.size w (((wc.setCell ⟨gb410, 2, none⟩ (.bool (false))).setCell ⟨gb410, 3, none⟩ (.int .i64 ((Ax l0 x4_1).f1))).setCell ⟨gb410, 4, none⟩ (.string ((Ax l0 x4_1).f2)))) := ⟨by repeat (first | (with_reducible first | exact HB.out | apply Ak | apply Ah | apply Aj | refine Ao ?_ GE409.out | refine Ao ?_ GE410.out) | exact HB.out)⟩
 (try clear BK409)
 (try clear BK410)
 (try clear HB)
 generalize (((wc.setCell ⟨gb410, 2, none⟩ (.bool (false))).setCell ⟨gb410, 3, none⟩ (.int .i64 ((Ax l0 x4_1).f1))).setCell ⟨gb410, 4, none⟩ (.string ((Ax l0 x4_1).f2))) = w33 at n0_ n1_ n2_ ⊢
 have BK409 := n0_
 have BK410 := n1_
 have HB := n2_
 clear n0_ n1_ n2_
 replace BK409 := Aa.mk (Af BK409.out); replace BK410 := Aa.mk (Af BK410.out); replace HB := Aa.mk (Aj HB.out)
 have p416 : 0 ≤ (x4_1 : Int) := dt_
 have q416 : x4_1 < (l0.length : Int) := dt_
 obtain ⟨ad416, e416, hx416_0, hx416_1, hx416_2⟩ := at_T24 HR0.out x4_1 p416 q416
 have hw416_2 := hx416_2
 have hw416_1 := hx416_1
 (try rw [← Nbq8.out] at hx416_0)
 have hw416_0 := hx416_0
 obtain rfl : ad411 = ad416 := (by injection e416)
 replace hx416_0 := hc_ HB hx416_0
 replace hx416_1 := hc_ HB hx416_1
 replace hx416_2 := hc_ HB hx416_2
 replace p416 := eq_true p416
 replace q416 := eq_true q416
 refine start_ (n := 11) (S := fun w' => w'.cell? ⟨gb410, 0, none⟩ = some (.int .i64 (l0.length : Int)) ∧ w'.cell? ⟨gb410, 1, none⟩ = some (.int .i64 x411001_1) ∧ w'.cell? ⟨gb410, 2, none⟩ = some (.bool (false)) ∧ w'.cell? ⟨gb410, 3, none⟩ = some (.int .i64 ((Ax l0 x4_1).f1)) ∧ w'.cell? ⟨gb410, 4, none⟩ = some (.string ((Ax l0 x4_1).f2)) ∧ w'.cell? ⟨gb410, 5, none⟩ = some (.bool x411005_1) ∧ w'.cell? ⟨gb410, 6, none⟩ = some (.int .i64 x411006_1) ∧ w'.cell? ⟨gb410, 7, none⟩ = some (.string x411007_1) ∧ w'.cell? (ad411.add ((x4_1).toNat * 3)) = some (.bool (false)) ∧ w'.cell? ⟨(ad411.add ((x4_1).toNat * 3)).block, (ad411.add ((x4_1).toNat * 3)).off + 1, none⟩ = some (.int .i64 ((Ax l0 x4_1).f1)) ∧ w'.cell? ⟨(ad411.add ((x4_1).toNat * 3)).block, (ad411.add ((x4_1).toNat * 3)).off + 2, none⟩ = some (.string ((Ax l0 x4_1).f2))) (ds := []) #[false, false, false, false, false, false, false, false, false, false, false] (by kernel_rfl) rfl rfl ⟨(Ab BK410.out 0).trans rfl, (Ab BK410.out 1).trans rfl, (Ab BK410.out 2).trans rfl, (Ab BK410.out 3).trans rfl, (Ab BK410.out 4).trans rfl, (Ab BK410.out 5).trans rfl, (Ab BK410.out 6).trans rfl, (Ab BK410.out 7).trans rfl, ((HB.out.cell (World.block_lt_of_cell? w _ hw416_0)).trans hw416_0), ((HB.out.cell (World.block_lt_of_cell? w _ hw416_1)).trans hw416_1), ((HB.out.cell (World.block_lt_of_cell? w _ hw416_2)).trans hw416_2)⟩ (fun hHeld => ?_); refine with_tabW Am.tab10 Am.bits10 (fun HT_ HW_ => ?_)
 generalize w33.drew = w34 at BK409 BK410 HB hx416_0 hx416_1 hx416_2 hHeld ⊢
 refine pu_ 0 (some 44) (bl_ 11 1) ?_
 refine pu_ 1 (some 45) (bl_ 11 3) ?_
 refine pu_ 2 (some 46) (bl_ 11 7) ?_
 refine pu_ 3 (some 47) (bl_ 11 15) ?_
 refine pu_ 4 (some 48) (bl_ 11 31) ?_
 refine pu_ 6 (some 50) (bl_ 11 95) ?_
 refine ta_ 5 (some 49) (bl_ 11 127) hHeld ?_
 refine ta_ 7 (some 51) (bl_ 11 255) hHeld ?_
 refine one_ (i := 8) (N := some 52) #[true, true, true, true, true, true, true, true, true, false, false] rfl rfl (one_of HT_.out (by kernel_rfl)) (by decide) (fun K hK => ?_)
 refine gs_ Try.func35 #[.agg #[.bool (false), .int .i64 ((Ax l0 x4_1).f1), .string ((Ax l0 x4_1).f2)], .agg #[.bool x411005_1, .int .i64 x411006_1, .string x411007_1]] ?_
 with_reducible refine (Bb.calls kj11 (false) ((Ax l0 x4_1).f1) ((Ax l0 x4_1).f2) x411005_1 x411006_1 x411007_1 t417 _ A29.out).mono ?_
 rintro e w35 ⟨rfl, hb⟩
 refine ⟨_, rfl, ?_⟩
 replace BK409 := bk_ BK409 hb; replace BK410 := bk_ BK410 hb; replace HB := bs_ HB hb
 (try clear hb)
 refine hK.out _ _ ⟨(Ab BK410.out 0).trans rfl, (Ab BK410.out 1).trans rfl, (Ab BK410.out 2).trans rfl, (Ab BK410.out 3).trans rfl, (Ab BK410.out 4).trans rfl, (Ab BK410.out 5).trans rfl, (Ab BK410.out 6).trans rfl, (Ab BK410.out 7).trans rfl, ((HB.out.cell (World.block_lt_of_cell? w _ hw416_0)).trans hw416_0), ((HB.out.cell (World.block_lt_of_cell? w _ hw416_1)).trans hw416_1), ((HB.out.cell (World.block_lt_of_cell? w _ hw416_2)).trans hw416_2)⟩ (fun hHeld => ?_)
 clear hK K
 refine norm_ (a' := ?_) ?_ ?_
 rotate_left
 ·(
 show Act.put _ (some 52) _ = _
 simp only [Act.put, List.setIfInBounds_toArray, List.set_cons_zero, List.set_cons_succ, i64_w, i32_w]
 rfl)
 refine pu_ 9 (some 53) (bl_ 11 1023) ?_
 refine pu_ 10 (some 54) (bl_ 11 2047) ?_
 refine done_ (done_of HT_.out (by kernel_rfl)) ?_
 have p418 : 0 ≤ (x4_1 : Int) := dt_
 have q418 : x4_1 < (l0.length : Int) := dt_
 obtain ⟨ad418, e418, hx418_0, hx418_1, hx418_2⟩ := at_T24 HR0.out x4_1 p418 q418
 (try rw [← Nbq8.out] at hx418_0)
 obtain rfl : ad411 = ad418 := (by injection e418)
 replace hx418_0 := hc_ HB hx418_0
 replace hx418_1 := hc_ HB hx418_1
 replace hx418_2 := hc_ HB hx418_2
 replace p418 := eq_true p418
 replace q418 := eq_true q418
 obtain ⟨C36_0, C36_1, C36_2, C36_3, C36_4, C36_5, C36_6, C36_7⟩ := cz8_ BK410.out
 obtain ⟨F36_0, F36_1, F36_2, F36_3, F36_4, F36_5, F36_6, F36_7⟩ := fz8_ BK410.out
 try go_wp2
 go_roundg kj11
 case measure => have := HK1.out; have := HJ11.out; omega
 case rel => exact ⟨(wrap64 (x4_1 + 1)), (x411001_1), (false), ((Ax l0 x4_1).f1), ((Ax l0 x4_1).f2), (false), ((Ax l0 x4_1).f1), ((Ax l0 x4_1).f2), (by first | rfl | (simp; done) | (simp [*]; done)), H', ⟨by have := HK1.out; have := HJ11.out; omega⟩, ⟨by (iterate 3 ((with_reducible repeat (first | refine Ag ?_ _ | refine Af ?_ | refine Ae ?_ _)); refine Bv ?_ NB409_410.out _)); (with_reducible repeat (first | refine Ag ?_ _ | refine Af ?_ | refine Ae ?_ _)); exact BK409.out⟩, ⟨by (with_reducible repeat (first | refine Ag ?_ _ | refine Af ?_ | refine Ae ?_ _)); refine Bs (cs := #[.int .i64 (l0.length : Int), .int .i64 x411001_1, .bool (false), .int .i64 ((Ax l0 x4_1).f1), .string ((Ax l0 x4_1).f2), .bool (false), .int .i64 ((Ax l0 x4_1).f1), .string x411007_1]) ?_ 7 _ rfl; (with_reducible repeat (first | refine Ag ?_ _ | refine Af ?_ | refine Ae ?_ _)); refine Bs (cs := #[.int .i64 (l0.length : Int), .int .i64 x411001_1, .bool (false), .int .i64 ((Ax l0 x4_1).f1), .string ((Ax l0 x4_1).f2), .bool (false), .int .i64 x411006_1, .string x411007_1]) ?_ 6 _ rfl; (with_reducible repeat (first | refine Ag ?_ _ | refine Af ?_ | refine Ae ?_ _)); refine Bs (cs := #[.int .i64 (l0.length : Int), .int .i64 x411001_1, .bool (false), .int .i64 ((Ax l0 x4_1).f1), .string ((Ax l0 x4_1).f2), .bool x411005_1, .int .i64 x411006_1, .string x411007_1]) ?_ 5 _ rfl; (with_reducible repeat (first | refine Ag ?_ _ | refine Af ?_ | refine Ae ?_ _)); exact BK410.out⟩, ⟨by repeat (first | (with_reducible first | exact HB.out | apply Ak | apply Ah | apply Aj | refine Ao ?_ GE409.out | refine Ao ?_ GE410.out) | exact HB.out)⟩⟩)
 ·(
 rw [if_neg c30] at H
 have c30b0 : decide (0 < t417) = false := decide_eq_false c30
 clear c30
 have H' := Aa.mk H
 clear H
 have p414 : 0 ≤ (x4_1 : Int) := dt_
 have q414 : x4_1 < (l0.length : Int) := dt_
 obtain ⟨ad414, e414, hx414_0, hx414_1, hx414_2⟩ := at_T24 HR0.out x4_1 p414 q414
 (try rw [← Nbq8.out] at hx414_0)
 obtain rfl : ad411 = ad414 := (by injection e414)
 replace hx414_0 := hc_ HB hx414_0
 replace hx414_1 := hc_ HB hx414_1
 replace hx414_2 := hc_ HB hx414_2
 replace p414 := eq_true p414
 replace q414 := eq_true q414
 have hnb37 := NB410_409.out
 have hnc37 := NB409_410.out
 obtain ⟨C38_0, C38_1, C38_2, C38_3, C38_4, C38_5, C38_6, C38_7⟩ := cz8_ BK410.out
 obtain ⟨F38_0, F38_1, F38_2, F38_3, F38_4, F38_5, F38_6, F38_7⟩ := fz8_ BK410.out
 try go_wp2
 have n0_ : Aa ((((wc.setCell ⟨gb410, 2, none⟩ (.bool (false))).setCell ⟨gb410, 3, none⟩ (.int .i64 ((Ax l0 x4_1).f1))).setCell ⟨gb410, 4, none⟩ (.string ((Ax l0 x4_1).f2))).heap[gb409]? = some (.cells #[.int .i64 0, .int .i64 0, .bool false, .int .i64 0, .string (⟨#[]⟩ : ByteArray), .bool false, .int .i64 0, .string (⟨#[]⟩ : ByteArray)] 33 (0, 0))) := ⟨by (iterate 3 ((with_reducible repeat (first | refine Ag ?_ _ | refine Af ?_ | refine Ae ?_ _)); refine Bv ?_ NB409_410.out _)); (with_reducible repeat (first | refine Ag ?_ _ | refine Af ?_ | refine Ae ?_ _)); exact BK409.out⟩
 have n1_ : Aa ((((wc.setCell ⟨gb410, 2, none⟩ (.bool (false))).setCell ⟨gb410, 3, none⟩ (.int .i64 ((Ax l0 x4_1).f1))).setCell ⟨gb410, 4, none⟩ (.string ((Ax l0 x4_1).f2))).heap[gb410]? = some (.cells #[.int .i64 (l0.length : Int), .int .i64 x411001_1, .bool (false), .int .i64 ((Ax l0 x4_1).f1), .string ((Ax l0 x4_1).f2), .bool x411005_1, .int .i64 x411006_1, .string x411007_1] 33 (0, 0))) := ⟨by (with_reducible repeat (first | refine Ag ?_ _ | refine Af ?_ | refine Ae ?_ _)); refine Bs (cs := #[.int .i64 (l0.length : Int), .int .i64 x411001_1, .bool (false), .int .i64 ((Ax l0 x4_1).f1), .string x411004_1, .bool x411005_1, .int .i64 x411006_1, .string x411007_1]) ?_ 4 _ rfl; (with_reducible repeat (first | refine Ag ?_ _ | refine Af ?_ | refine Ae ?_ _)); refine Bs (cs := #[.int .i64 (l0.length : Int), .int .i64 x411001_1, .bool (false), .int .i64 x411003_1, .string x411004_1, .bool x411005_1, .int .i64 x411006_1, .string x411007_1]) ?_ 3 _ rfl; (with_reducible repeat (first | refine Ag ?_ _ | refine Af ?_ | refine Ae ?_ _)); refine Bs (cs := #[.int .i64 (l0.length : Int), .int .i64 x411001_1, .bool x411002_1, .int .i64 x411003_1, .string x411004_1, .bool x411005_1, .int .i64 x411006_1, .string x411007_1]) ?_ 2 _ rfl; (with_reducible repeat (first | refine Ag ?_ _ | refine Af ?_ | refine Ae ?_ _)); exact BK410.out⟩
 have n2_ : Aa (Below w.heap.size w (((wc.setCell ⟨gb410, 2, none⟩ (.bool (false))).setCell ⟨gb410, 3, none⟩ (.int .i64 ((Ax l0 x4_1).f1))).setCell ⟨gb410, 4, none⟩ (.string ((Ax l0 x4_1).f2)))) := ⟨by repeat (first | (with_reducible first | exact HB.out | apply Ak | apply Ah | apply Aj | refine Ao ?_ GE409.out | refine Ao ?_ GE410.out) | exact HB.out)⟩
 (try clear BK409)
 (try clear BK410)
 (try clear HB)
 generalize (((wc.setCell ⟨gb410, 2, none⟩ (.bool (false))).setCell ⟨gb410, 3, none⟩ (.int .i64 ((Ax l0 x4_1).f1))).setCell ⟨gb410, 4, none⟩ (.string ((Ax l0 x4_1).f2))) = w39 at n0_ n1_ n2_ ⊢
 have BK409 := n0_
 have BK410 := n1_
 have HB := n2_
 clear n0_ n1_ n2_
 replace BK409 := Aa.mk (Af BK409.out); replace BK410 := Aa.mk (Af BK410.out); replace HB := Aa.mk (Aj HB.out)
 have p416 : 0 ≤ (x4_1 : Int) := dt_
 have q416 : x4_1 < (l0.length : Int) := dt_
 obtain ⟨ad416, e416, hx416_0, hx416_1, hx416_2⟩ := at_T24 HR0.out x4_1 p416 q416
 have hw416_2 := hx416_2
 have hw416_1 := hx416_1
 (try rw [← Nbq8.out] at hx416_0)
 have hw416_0 := hx416_0
 obtain rfl : ad411 = ad416 := (by injection e416)
 replace hx416_0 := hc_ HB hx416_0
 replace hx416_1 := hc_ HB hx416_1
 replace hx416_2 := hc_ HB hx416_2
 replace p416 := eq_true p416
 replace q416 := eq_true q416
 refine start_ (n := 11) (S := fun w' => w'.cell? ⟨gb410, 0, none⟩ = some (.int .i64 (l0.length : Int)) ∧ w'.cell? ⟨gb410, 1, none⟩ = some (.int .i64 x411001_1) ∧ w'.cell? ⟨gb410, 2, none⟩ = some (.bool (false)) ∧ w'.cell? ⟨gb410, 3, none⟩ = some (.int .i64 ((Ax l0 x4_1).f1)) ∧ w'.cell? ⟨gb410, 4, none⟩ = some (.string ((Ax l0 x4_1).f2)) ∧ w'.cell? ⟨gb410, 5, none⟩ = some (.bool x411005_1) ∧ w'.cell? ⟨gb410, 6, none⟩ = some (.int .i64 x411006_1) ∧ w'.cell? ⟨gb410, 7, none⟩ = some (.string x411007_1) ∧ w'.cell? (ad411.add ((x4_1).toNat * 3)) = some (.bool (false)) ∧ w'.cell? ⟨(ad411.add ((x4_1).toNat * 3)).block, (ad411.add ((x4_1).toNat * 3)).off + 1, none⟩ = some (.int .i64 ((Ax l0 x4_1).f1)) ∧ w'.cell? ⟨(ad411.add ((x4_1).toNat * 3)).block, (ad411.add ((x4_1).toNat * 3)).off + 2, none⟩ = some (.string ((Ax l0 x4_1).f2))) (ds := []) #[false, false, false, false, false, false, false, false, false, false, false] (by kernel_rfl) rfl rfl ⟨(Ab BK410.out 0).trans rfl, (Ab BK410.out 1).trans rfl, (Ab BK410.out 2).trans rfl, (Ab BK410.out 3).trans rfl, (Ab BK410.out 4).trans rfl, (Ab BK410.out 5).trans rfl, (Ab BK410.out 6).trans rfl, (Ab BK410.out 7).trans rfl, ((HB.out.cell (World.block_lt_of_cell? w _ hw416_0)).trans hw416_0), ((HB.out.cell (World.block_lt_of_cell? w _ hw416_1)).trans hw416_1), ((HB.out.cell (World.block_lt_of_cell? w _ hw416_2)).trans hw416_2)⟩ (fun hHeld => ?_); refine with_tabW Am.tab10 Am.bits10 (fun HT_ HW_ => ?_)
 generalize w39.drew = w40 at BK409 BK410 HB hx416_0 hx416_1 hx416_2 hHeld ⊢
 refine pu_ 0 (some 44) (bl_ 11 1) ?_
 refine pu_ 1 (some 45) (bl_ 11 3) ?_
 refine pu_ 2 (some 46) (bl_ 11 7) ?_
 refine pu_ 3 (some 47) (bl_ 11 15) ?_
 refine pu_ 4 (some 48) (bl_ 11 31) ?_
 refine pu_ 6 (some 50) (bl_ 11 95) ?_
 refine ta_ 5 (some 49) (bl_ 11 127) hHeld ?_
 refine ta_ 7 (some 51) (bl_ 11 255) hHeld ?_
 refine one_ (i := 8) (N := some 52) #[true, true, true, true, true, true, true, true, true, false, false] rfl rfl (one_of HT_.out (by kernel_rfl)) (by decide) (fun K hK => ?_)
 refine gs_ Try.func35 #[.agg #[.bool (false), .int .i64 ((Ax l0 x4_1).f1), .string ((Ax l0 x4_1).f2)], .agg #[.bool x411005_1, .int .i64 x411006_1, .string x411007_1]] ?_
 with_reducible refine (Bb.calls kj11 (false) ((Ax l0 x4_1).f1) ((Ax l0 x4_1).f2) x411005_1 x411006_1 x411007_1 t417 _ A29.out).mono ?_
 rintro e w41 ⟨rfl, hb⟩
 refine ⟨_, rfl, ?_⟩
 replace BK409 := bk_ BK409 hb; replace BK410 := bk_ BK410 hb; replace HB := bs_ HB hb
 (try clear hb)
 refine hK.out _ _ ⟨(Ab BK410.out 0).trans rfl, (Ab BK410.out 1).trans rfl, (Ab BK410.out 2).trans rfl, (Ab BK410.out 3).trans rfl, (Ab BK410.out 4).trans rfl, (Ab BK410.out 5).trans rfl, (Ab BK410.out 6).trans rfl, (Ab BK410.out 7).trans rfl, ((HB.out.cell (World.block_lt_of_cell? w _ hw416_0)).trans hw416_0), ((HB.out.cell (World.block_lt_of_cell? w _ hw416_1)).trans hw416_1), ((HB.out.cell (World.block_lt_of_cell? w _ hw416_2)).trans hw416_2)⟩ (fun hHeld => ?_)
 clear hK K
 refine norm_ (a' := ?_) ?_ ?_
 rotate_left
 ·(
 show Act.put _ (some 52) _ = _
 simp only [Act.put, List.setIfInBounds_toArray, List.set_cons_zero, List.set_cons_succ, i64_w, i32_w]
 rfl)
 refine pu_ 9 (some 53) (bl_ 11 1023) ?_
 refine pu_ 10 (some 54) (bl_ 11 2047) ?_
 refine done_ (done_of HT_.out (by kernel_rfl)) ?_
 try go_wp2
 go_roundg kj11
 case measure => have := HK1.out; have := HJ11.out; omega
 case rel => exact ⟨(wrap64 (x4_1 + 1)), (x411001_1), (false), ((Ax l0 x4_1).f1), ((Ax l0 x4_1).f2), (x411005_1), (x411006_1), (x411007_1), (by first | rfl | (simp; done) | (simp [*]; done)), H', ⟨by have := HK1.out; have := HJ11.out; omega⟩, ⟨by (with_reducible repeat (first | refine Ag ?_ _ | refine Af ?_ | refine Ae ?_ _)); exact BK409.out⟩, ⟨by (with_reducible repeat (first | refine Ag ?_ _ | refine Af ?_ | refine Ae ?_ _)); exact BK410.out⟩, ⟨by repeat (first | (with_reducible first | exact HB.out | apply Ak | apply Ah | apply Aj | refine Ao ?_ GE409.out | refine Ao ?_ GE410.out) | exact HB.out)⟩⟩)))
 ·(
 rw [if_neg c22] at H
 exact absurd H (by simp)))
 ·(
 rw [if_neg c21] at H
 exact absurd H (by simp)))
 ·(
 replace c20 := Dq c20
 subst c20
 have H1 : (if (x411001_1 == x4_1) = true then (if 0 ≤ x4_1 then (if x4_1 < (l0.length : Int) then (Am.l0 kj11 l0 (wrap64 (x4_1 + 1)) (l0.length : Int) x411001_1 x411002_1 x411003_1 x411004_1 (false) ((Ax l0 x4_1).f1) ((Ax l0 x4_1).f2)) else (none)) else (none)) else (if 0 ≤ x4_1 then (if x4_1 < (l0.length : Int) then ((Bb.f kj11 (false) ((Ax l0 x4_1).f1) ((Ax l0 x4_1).f2) x411005_1 x411006_1 x411007_1).bind fun t421 => (if t421 > 0 then (Am.l0 kj11 l0 (wrap64 (x4_1 + 1)) (l0.length : Int) x411001_1 x411002_1 x411003_1 x411004_1 (false) ((Ax l0 x4_1).f1) ((Ax l0 x4_1).f2)) else (Am.l0 kj11 l0 (wrap64 (x4_1 + 1)) (l0.length : Int) x411001_1 x411002_1 x411003_1 x411004_1 x411005_1 x411006_1 x411007_1))) else (none)) else (none))) = some (r1, r2, r3, r4, r5, r6, r7, r8) := by rw [if_neg (show ¬ (false = true) by decide)] at H; exact H
 clear H
 have H := H1
 clear H1
 by_cases c42 : (x411001_1 == x4_1) = true
 ·(
 rw [if_pos c42] at H
 have c42b0 : (x411001_1 == x4_1) = true := c42
 (try (have c42b1 : decide (x411001_1 = x4_1) = true := by simpa using c42))
 (try (have c42b2 : (x411001_1 == x4_1) = true := by simpa using c42))
 clear c42
 by_cases c43 : 0 ≤ x4_1
 ·(
 rw [if_pos c43] at H
 have c43b0 : decide (0 ≤ x4_1) = true := decide_eq_true c43
 clear c43
 by_cases c44 : x4_1 < (l0.length : Int)
 ·(
 rw [if_pos c44] at H
 have c44b0 : decide (x4_1 < (l0.length : Int)) = true := decide_eq_true c44
 clear c44
 have H' := Aa.mk H
 clear H
 try go_wp2
 replace BK409 := Aa.mk (Af BK409.out); replace BK410 := Aa.mk (Af BK410.out); replace HB := Aa.mk (Aj HB.out)
 refine start_ (n := 11) (S := fun w' => True) (ds := []) #[false, false, false, false, false, false, false, false, false, false, false] (by kernel_rfl) rfl rfl trivial (fun hHeld => ?_); refine with_tabW Am.tab10 Am.bits10 (fun HT_ HW_ => ?_)
 generalize wc.drew = w45 at BK409 BK410 HB hHeld ⊢
 refine pu_ 0 (some 44) (bl_ 11 1) ?_
 refine pu_ 1 (some 45) (bl_ 11 3) ?_
 refine pure_ (i := 2) (N := some 46) (v := undef) (a' := ?_) #[true, true, true, false, false, false, false, false, false, false, false] rfl rfl (any_of HT_.out (by kernel_rfl)) (fun _ _ _ h => h) (Or.inr ⟨by rfl, rfl⟩) ?_ ?_
 rotate_left
 ·(
 simp only [Act.put, List.setIfInBounds_toArray, List.set_cons_zero, List.set_cons_succ, i64_w, i32_w]
 rfl)
 refine pure_ (i := 3) (N := some 47) (v := undef) (a' := ?_) #[true, true, true, true, false, false, false, false, false, false, false] rfl rfl (any_of HT_.out (by kernel_rfl)) (fun _ _ _ h => h) (Or.inr ⟨by rfl, rfl⟩) ?_ ?_
 rotate_left
 ·(
 simp only [Act.put, List.setIfInBounds_toArray, List.set_cons_zero, List.set_cons_succ, i64_w, i32_w]
 rfl)
 refine pure_ (i := 4) (N := some 48) (v := undef) (a' := ?_) #[true, true, true, true, true, false, false, false, false, false, false] rfl rfl (any_of HT_.out (by kernel_rfl)) (fun _ _ _ h => h) (Or.inr ⟨by rfl, rfl⟩) ?_ ?_
 rotate_left
 ·(
 simp only [Act.put, List.setIfInBounds_toArray, List.set_cons_zero, List.set_cons_succ, i64_w, i32_w]
 rfl)
 refine pure_ (i := 5) (N := some 49) (v := undef) (a' := ?_) #[true, true, true, true, true, true, false, false, false, false, false] rfl rfl (any_of HT_.out (by kernel_rfl)) (fun _ _ _ h => h) (Or.inr ⟨by rfl, rfl⟩) ?_ ?_
 rotate_left
 ·(
 simp only [Act.put, List.setIfInBounds_toArray, List.set_cons_zero, List.set_cons_succ, i64_w, i32_w]
 rfl)
 refine pure_ (i := 6) (N := some 50) (v := undef) (a' := ?_) #[true, true, true, true, true, true, true, false, false, false, false] rfl rfl (any_of HT_.out (by kernel_rfl)) (fun _ _ _ h => h) (Or.inr ⟨by rfl, rfl⟩) ?_ ?_
 rotate_left
 ·(
 simp only [Act.put, List.setIfInBounds_toArray, List.set_cons_zero, List.set_cons_succ, i64_w, i32_w]
 rfl)
 refine pure_ (i := 7) (N := some 51) (v := undef) (a' := ?_) #[true, true, true, true, true, true, true, true, false, false, false] rfl rfl (any_of HT_.out (by kernel_rfl)) (fun _ _ _ h => h) (Or.inr ⟨by rfl, rfl⟩) ?_ ?_
 rotate_left
 ·(
 simp only [Act.put, List.setIfInBounds_toArray, List.set_cons_zero, List.set_cons_succ, i64_w, i32_w]
 rfl)
 refine pure_ (i := 8) (N := some 52) (v := undef) (a' := ?_) #[true, true, true, true, true, true, true, true, true, false, false] rfl rfl (any_of HT_.out (by kernel_rfl)) (fun _ _ _ h => h) (Or.inr ⟨by rfl, rfl⟩) ?_ ?_
 rotate_left
 ·(
 simp only [Act.put, List.setIfInBounds_toArray, List.set_cons_zero, List.set_cons_succ, i64_w, i32_w]
 rfl)
 refine pure_ (i := 9) (N := some 53) (v := undef) (a' := ?_) #[true, true, true, true, true, true, true, true, true, true, false] rfl rfl (any_of HT_.out (by kernel_rfl)) (fun _ _ _ h => h) (Or.inr ⟨by rfl, rfl⟩) ?_ ?_
 rotate_left
 ·(
 simp only [Act.put, List.setIfInBounds_toArray, List.set_cons_zero, List.set_cons_succ, i64_w, i32_w]
 rfl)
 refine pu_ 10 (some 54) (bl_ 11 2047) ?_
 refine done_ (done_of HT_.out (by kernel_rfl)) ?_
 have p419 : 0 ≤ (x4_1 : Int) := dt_
 have q419 : x4_1 < (l0.length : Int) := dt_
 obtain ⟨ad419, e419, hx419_0, hx419_1, hx419_2⟩ := at_T24 HR0.out x4_1 p419 q419
 (try rw [← Nbq8.out] at hx419_0)
 obtain rfl : ad411 = ad419 := (by injection e419)
 replace hx419_0 := hc_ HB hx419_0
 replace hx419_1 := hc_ HB hx419_1
 replace hx419_2 := hc_ HB hx419_2
 replace p419 := eq_true p419
 replace q419 := eq_true q419
 have hnb46 := NB410_409.out
 have hnc46 := NB409_410.out
 obtain ⟨C47_0, C47_1, C47_2, C47_3, C47_4, C47_5, C47_6, C47_7⟩ := cz8_ BK410.out
 obtain ⟨F47_0, F47_1, F47_2, F47_3, F47_4, F47_5, F47_6, F47_7⟩ := fz8_ BK410.out
 try go_wp2
 go_roundg kj11
 case measure => have := HK1.out; have := HJ11.out; omega
 case rel => exact ⟨(wrap64 (x4_1 + 1)), (x411001_1), (x411002_1), (x411003_1), (x411004_1), (false), ((Ax l0 x4_1).f1), ((Ax l0 x4_1).f2), (by first | rfl | (simp; done) | (simp [*]; done)), H', ⟨by have := HK1.out; have := HJ11.out; omega⟩, ⟨by (iterate 3 ((with_reducible repeat (first | refine Ag ?_ _ | refine Af ?_ | refine Ae ?_ _)); refine Bv ?_ NB409_410.out _)); (with_reducible repeat (first | refine Ag ?_ _ | refine Af ?_ | refine Ae ?_ _)); exact BK409.out⟩, ⟨by (with_reducible repeat (first | refine Ag ?_ _ | refine Af ?_ | refine Ae ?_ _)); refine Bs (cs := #[.int .i64 (l0.length : Int), .int .i64 x411001_1, .bool x411002_1, .int .i64 x411003_1, .string x411004_1, .bool (false), .int .i64 ((Ax l0 x4_1).f1), .string x411007_1]) ?_ 7 _ rfl; (with_reducible repeat (first | refine Ag ?_ _ | refine Af ?_ | refine Ae ?_ _)); refine Bs (cs := #[.int .i64 (l0.length : Int), .int .i64 x411001_1, .bool x411002_1, .int .i64 x411003_1, .string x411004_1, .bool (false), .int .i64 x411006_1, .string x411007_1]) ?_ 6 _ rfl; (with_reducible repeat (first | refine Ag ?_ _ | refine Af ?_ | refine Ae ?_ _)); refine Bs (cs := #[.int .i64 (l0.length : Int), .int .i64 x411001_1, .bool x411002_1, .int .i64 x411003_1, .string x411004_1, .bool x411005_1, .int .i64 x411006_1, .string x411007_1]) ?_ 5 _ rfl; (with_reducible repeat (first | refine Ag ?_ _ | refine Af ?_ | refine Ae ?_ _)); exact BK410.out⟩, ⟨by repeat (first | (with_reducible first | exact HB.out | apply Ak | apply Ah | apply Aj | refine Ao ?_ GE409.out | refine Ao ?_ GE410.out) | exact HB.out)⟩⟩)
 ·(
 rw [if_neg c44] at H
 exact absurd H (by simp)))
 ·(
 rw [if_neg c43] at H
 exact absurd H (by simp)))
 ·(
 rw [if_neg c42] at H
 have c42b0 : (x411001_1 == x4_1) = false := by simpa using c42
 (try (have c42b1 : decide (x411001_1 = x4_1) = false := by simpa using c42))
 (try (have c42b2 : (x411001_1 == x4_1) = false := by simpa using c42))
 (try (have c42b3 : ¬ (x411001_1 = x4_1) := by simpa using c42))
 clear c42
 by_cases c48 : 0 ≤ x4_1
 ·(
 rw [if_pos c48] at H
 have c48b0 : decide (0 ≤ x4_1) = true := decide_eq_true c48
 clear c48
 by_cases c49 : x4_1 < (l0.length : Int)
 ·(
 rw [if_pos c49] at H
 have c49b0 : decide (x4_1 < (l0.length : Int)) = true := decide_eq_true c49
 clear c49
 replace H := Dn H
 obtain ⟨t421, A500, H⟩ := H
 replace H : (if t421 > 0 then (Am.l0 kj11 l0 (wrap64 (x4_1 + 1)) (l0.length : Int) x411001_1 x411002_1 x411003_1 x411004_1 (false) ((Ax l0 x4_1).f1) ((Ax l0 x4_1).f2)) else (Am.l0 kj11 l0 (wrap64 (x4_1 + 1)) (l0.length : Int) x411001_1 x411002_1 x411003_1 x411004_1 x411005_1 x411006_1 x411007_1)) = some (r1, r2, r3, r4, r5, r6, r7, r8) := H
 have A50 := Aa.mk A500
 clear A500
 by_cases c51 : t421 > 0
 ·(
 rw [if_pos c51] at H
 have c51b0 : decide (0 < t421) = true := decide_eq_true c51
 clear c51
 have H' := Aa.mk H
 clear H
 try go_wp2
 replace BK409 := Aa.mk (Af BK409.out); replace BK410 := Aa.mk (Af BK410.out); replace HB := Aa.mk (Aj HB.out)
 have p420 : 0 ≤ (x4_1 : Int) := dt_
 have q420 : x4_1 < (l0.length : Int) := dt_
 obtain ⟨ad420, e420, hx420_0, hx420_1, hx420_2⟩ := at_T24 HR0.out x4_1 p420 q420
 have hw420_2 := hx420_2
 have hw420_1 := hx420_1
 (try rw [← Nbq8.out] at hx420_0)
 have hw420_0 := hx420_0
 obtain rfl : ad411 = ad420 := (by injection e420)
 replace hx420_0 := hc_ HB hx420_0
 replace hx420_1 := hc_ HB hx420_1
 replace hx420_2 := hc_ HB hx420_2
 replace p420 := eq_true p420
 replace q420 := eq_true q420
 refine start_ (n := 11) (S := fun w' => w'.cell? ⟨gb410, 0, none⟩ = some (.int .i64 (l0.length : Int)) ∧ w'.cell? ⟨gb410, 1, none⟩ = some (.int .i64 x411001_1) ∧ w'.cell? ⟨gb410, 2, none⟩ = some (.bool x411002_1) ∧ w'.cell? ⟨gb410, 3, none⟩ = some (.int .i64 x411003_1) ∧ w'.cell? ⟨gb410, 4, none⟩ = some (.string x411004_1) ∧ w'.cell? ⟨gb410, 5, none⟩ = some (.bool x411005_1) ∧ w'.cell? ⟨gb410, 6, none⟩ = some (.int .i64 x411006_1) ∧ w'.cell? ⟨gb410, 7, none⟩ = some (.string x411007_1) ∧ w'.cell? (ad411.add ((x4_1).toNat * 3)) = some (.bool (false)) ∧ w'.cell? ⟨(ad411.add ((x4_1).toNat * 3)).block, (ad411.add ((x4_1).toNat * 3)).off + 1, none⟩ = some (.int .i64 ((Ax l0 x4_1).f1)) ∧ w'.cell? ⟨(ad411.add ((x4_1).toNat * 3)).block, (ad411.add ((x4_1).toNat * 3)).off + 2, none⟩ = some (.string ((Ax l0 x4_1).f2))) (ds := []) #[false, false, false, false, false, false, false, false, false, false, false] (by kernel_rfl) rfl rfl ⟨(Ab BK410.out 0).trans rfl, (Ab BK410.out 1).trans rfl, (Ab BK410.out 2).trans rfl, (Ab BK410.out 3).trans rfl, (Ab BK410.out 4).trans rfl, (Ab BK410.out 5).trans rfl, (Ab BK410.out 6).trans rfl, (Ab BK410.out 7).trans rfl, ((HB.out.cell (World.block_lt_of_cell? w _ hw420_0)).trans hw420_0), ((HB.out.cell (World.block_lt_of_cell? w _ hw420_1)).trans hw420_1), ((HB.out.cell (World.block_lt_of_cell? w _ hw420_2)).trans hw420_2)⟩ (fun hHeld => ?_); refine with_tabW Am.tab10 Am.bits10 (fun HT_ HW_ => ?_)
 generalize wc.drew = w52 at BK409 BK410 HB hx420_0 hx420_1 hx420_2 hHeld ⊢
 refine pu_ 0 (some 44) (bl_ 11 1) ?_
 refine pu_ 1 (some 45) (bl_ 11 3) ?_
 refine pu_ 2 (some 46) (bl_ 11 7) ?_
 refine pu_ 3 (some 47) (bl_ 11 15) ?_
 refine pu_ 4 (some 48) (bl_ 11 31) ?_
 refine pu_ 6 (some 50) (bl_ 11 95) ?_
 refine ta_ 5 (some 49) (bl_ 11 127) hHeld ?_
 refine ta_ 7 (some 51) (bl_ 11 255) hHeld ?_
 refine one_ (i := 8) (N := some 52) #[true, true, true, true, true, true, true, true, true, false, false] rfl rfl (one_of HT_.out (by kernel_rfl)) (by decide) (fun K hK => ?_)
 refine gs_ Try.func35 #[.agg #[.bool (false), .int .i64 ((Ax l0 x4_1).f1), .string ((Ax l0 x4_1).f2)], .agg #[.bool x411005_1, .int .i64 x411006_1, .string x411007_1]] ?_
 with_reducible refine (Bb.calls kj11 (false) ((Ax l0 x4_1).f1) ((Ax l0 x4_1).f2) x411005_1 x411006_1 x411007_1 t421 _ A50.out).mono ?_
 rintro e w53 ⟨rfl, hb⟩
 refine ⟨_, rfl, ?_⟩
 replace BK409 := bk_ BK409 hb; replace BK410 := bk_ BK410 hb; replace HB := bs_ HB hb
 (try clear hb)
 refine hK.out _ _ ⟨(Ab BK410.out 0).trans rfl, (Ab BK410.out 1).trans rfl, (Ab BK410.out 2).trans rfl, (Ab BK410.out 3).trans rfl, (Ab BK410.out 4).trans rfl, (Ab BK410.out 5).trans rfl, (Ab BK410.out 6).trans rfl, (Ab BK410.out 7).trans rfl, ((HB.out.cell (World.block_lt_of_cell? w _ hw420_0)).trans hw420_0), ((HB.out.cell (World.block_lt_of_cell? w _ hw420_1)).trans hw420_1), ((HB.out.cell (World.block_lt_of_cell? w _ hw420_2)).trans hw420_2)⟩ (fun hHeld => ?_)
 clear hK K
 refine norm_ (a' := ?_) ?_ ?_
 rotate_left
 ·(
 show Act.put _ (some 52) _ = _
 simp only [Act.put, List.setIfInBounds_toArray, List.set_cons_zero, List.set_cons_succ, i64_w, i32_w]
 rfl)
 refine pu_ 9 (some 53) (bl_ 11 1023) ?_
 refine pu_ 10 (some 54) (bl_ 11 2047) ?_
 refine done_ (done_of HT_.out (by kernel_rfl)) ?_
 have p422 : 0 ≤ (x4_1 : Int) := dt_
 have q422 : x4_1 < (l0.length : Int) := dt_
 obtain ⟨ad422, e422, hx422_0, hx422_1, hx422_2⟩ := at_T24 HR0.out x4_1 p422 q422
 (try rw [← Nbq8.out] at hx422_0)
 obtain rfl : ad411 = ad422 := (by injection e422)
 replace hx422_0 := hc_ HB hx422_0
 replace hx422_1 := hc_ HB hx422_1
 replace hx422_2 := hc_ HB hx422_2
 replace p422 := eq_true p422
 replace q422 := eq_true q422
 have hnb54 := NB410_409.out
 have hnc54 := NB409_410.out
 obtain ⟨C55_0, C55_1, C55_2, C55_3, C55_4, C55_5, C55_6, C55_7⟩ := cz8_ BK410.out
 obtain ⟨F55_0, F55_1, F55_2, F55_3, F55_4, F55_5, F55_6, F55_7⟩ := fz8_ BK410.out
 try go_wp2
 go_roundg kj11
 case measure => have := HK1.out; have := HJ11.out; omega
 case rel => exact ⟨(wrap64 (x4_1 + 1)), (x411001_1), (x411002_1), (x411003_1), (x411004_1), (false), ((Ax l0 x4_1).f1), ((Ax l0 x4_1).f2), (by first | rfl | (simp; done) | (simp [*]; done)), H', ⟨by have := HK1.out; have := HJ11.out; omega⟩, ⟨by (iterate 3 ((with_reducible repeat (first | refine Ag ?_ _ | refine Af ?_ | refine Ae ?_ _)); refine Bv ?_ NB409_410.out _)); (with_reducible repeat (first | refine Ag ?_ _ | refine Af ?_ | refine Ae ?_ _)); exact BK409.out⟩, ⟨by (with_reducible repeat (first | refine Ag ?_ _ | refine Af ?_ | refine Ae ?_ _)); refine Bs (cs := #[.int .i64 (l0.length : Int), .int .i64 x411001_1, .bool x411002_1, .int .i64 x411003_1, .string x411004_1, .bool (false), .int .i64 ((Ax l0 x4_1).f1), .string x411007_1]) ?_ 7 _ rfl; (with_reducible repeat (first | refine Ag ?_ _ | refine Af ?_ | refine Ae ?_ _)); refine Bs (cs := #[.int .i64 (l0.length : Int), .int .i64 x411001_1, .bool x411002_1, .int .i64 x411003_1, .string x411004_1, .bool (false), .int .i64 x411006_1, .string x411007_1]) ?_ 6 _ rfl; (with_reducible repeat (first | refine Ag ?_ _ | refine Af ?_ | refine Ae ?_ _)); refine Bs (cs := #[.int .i64 (l0.length : Int), .int .i64 x411001_1, .bool x411002_1, .int .i64 x411003_1, .string x411004_1, .bool x411005_1, .int .i64 x411006_1, .string x411007_1]) ?_ 5 _ rfl; (with_reducible repeat (first | refine Ag ?_ _ | refine Af ?_ | refine Ae ?_ _)); exact BK410.out⟩, ⟨by repeat (first | (with_reducible first | exact HB.out | apply Ak | apply Ah | apply Aj | refine Ao ?_ GE409.out | refine Ao ?_ GE410.out) | exact HB.out)⟩⟩)
 ·(
 rw [if_neg c51] at H
 have c51b0 : decide (0 < t421) = false := decide_eq_false c51
 clear c51
 have H' := Aa.mk H
 clear H
 try go_wp2
 replace BK409 := Aa.mk (Af BK409.out); replace BK410 := Aa.mk (Af BK410.out); replace HB := Aa.mk (Aj HB.out)
 have p420 : 0 ≤ (x4_1 : Int) := dt_
 have q420 : x4_1 < (l0.length : Int) := dt_
 obtain ⟨ad420, e420, hx420_0, hx420_1, hx420_2⟩ := at_T24 HR0.out x4_1 p420 q420
 have hw420_2 := hx420_2
 have hw420_1 := hx420_1
 (try rw [← Nbq8.out] at hx420_0)
 have hw420_0 := hx420_0
 obtain rfl : ad411 = ad420 := (by injection e420)
 replace hx420_0 := hc_ HB hx420_0
 replace hx420_1 := hc_ HB hx420_1
 replace hx420_2 := hc_ HB hx420_2
 replace p420 := eq_true p420
 replace q420 := eq_true q420
 refine start_ (n := 11) (S := fun w' => w'.cell? ⟨gb410, 0, none⟩ = some (.int .i64 (l0.length : Int)) ∧ w'.cell? ⟨gb410, 1, none⟩ = some (.int .i64 x411001_1) ∧ w'.cell? ⟨gb410, 2, none⟩ = some (.bool x411002_1) ∧ w'.cell? ⟨gb410, 3, none⟩ = some (.int .i64 x411003_1) ∧ w'.cell? ⟨gb410, 4, none⟩ = some (.string x411004_1) ∧ w'.cell? ⟨gb410, 5, none⟩ = some (.bool x411005_1) ∧ w'.cell? ⟨gb410, 6, none⟩ = some (.int .i64 x411006_1) ∧ w'.cell? ⟨gb410, 7, none⟩ = some (.string x411007_1) ∧ w'.cell? (ad411.add ((x4_1).toNat * 3)) = some (.bool (false)) ∧ w'.cell? ⟨(ad411.add ((x4_1).toNat * 3)).block, (ad411.add ((x4_1).toNat * 3)).off + 1, none⟩ = some (.int .i64 ((Ax l0 x4_1).f1)) ∧ w'.cell? ⟨(ad411.add ((x4_1).toNat * 3)).block, (ad411.add ((x4_1).toNat * 3)).off + 2, none⟩ = some (.string ((Ax l0 x4_1).f2))) (ds := []) #[false, false, false, false, false, false, false, false, false, false, false] (by kernel_rfl) rfl rfl ⟨(Ab BK410.out 0).trans rfl, (Ab BK410.out 1).trans rfl, (Ab BK410.out 2).trans rfl, (Ab BK410.out 3).trans rfl, (Ab BK410.out 4).trans rfl, (Ab BK410.out 5).trans rfl, (Ab BK410.out 6).trans rfl, (Ab BK410.out 7).trans rfl, ((HB.out.cell (World.block_lt_of_cell? w _ hw420_0)).trans hw420_0), ((HB.out.cell (World.block_lt_of_cell? w _ hw420_1)).trans hw420_1), ((HB.out.cell (World.block_lt_of_cell? w _ hw420_2)).trans hw420_2)⟩ (fun hHeld => ?_); refine with_tabW Am.tab10 Am.bits10 (fun HT_ HW_ => ?_)
 generalize wc.drew = w56 at BK409 BK410 HB hx420_0 hx420_1 hx420_2 hHeld ⊢
 refine pu_ 0 (some 44) (bl_ 11 1) ?_
 refine pu_ 1 (some 45) (bl_ 11 3) ?_
 refine pu_ 2 (some 46) (bl_ 11 7) ?_
 refine pu_ 3 (some 47) (bl_ 11 15) ?_
 refine pu_ 4 (some 48) (bl_ 11 31) ?_
 refine pu_ 6 (some 50) (bl_ 11 95) ?_
 refine ta_ 5 (some 49) (bl_ 11 127) hHeld ?_
 refine ta_ 7 (some 51) (bl_ 11 255) hHeld ?_
 refine one_ (i := 8) (N := some 52) #[true, true, true, true, true, true, true, true, true, false, false] rfl rfl (one_of HT_.out (by kernel_rfl)) (by decide) (fun K hK => ?_)
 refine gs_ Try.func35 #[.agg #[.bool (false), .int .i64 ((Ax l0 x4_1).f1), .string ((Ax l0 x4_1).f2)], .agg #[.bool x411005_1, .int .i64 x411006_1, .string x411007_1]] ?_
 with_reducible refine (Bb.calls kj11 (false) ((Ax l0 x4_1).f1) ((Ax l0 x4_1).f2) x411005_1 x411006_1 x411007_1 t421 _ A50.out).mono ?_
 rintro e w57 ⟨rfl, hb⟩
 refine ⟨_, rfl, ?_⟩
 replace BK409 := bk_ BK409 hb; replace BK410 := bk_ BK410 hb; replace HB := bs_ HB hb
 (try clear hb)
 refine hK.out _ _ ⟨(Ab BK410.out 0).trans rfl, (Ab BK410.out 1).trans rfl, (Ab BK410.out 2).trans rfl, (Ab BK410.out 3).trans rfl, (Ab BK410.out 4).trans rfl, (Ab BK410.out 5).trans rfl, (Ab BK410.out 6).trans rfl, (Ab BK410.out 7).trans rfl, ((HB.out.cell (World.block_lt_of_cell? w _ hw420_0)).trans hw420_0), ((HB.out.cell (World.block_lt_of_cell? w _ hw420_1)).trans hw420_1), ((HB.out.cell (World.block_lt_of_cell? w _ hw420_2)).trans hw420_2)⟩ (fun hHeld => ?_)
 clear hK K
 refine norm_ (a' := ?_) ?_ ?_
 rotate_left
 ·(
 show Act.put _ (some 52) _ = _
 simp only [Act.put, List.setIfInBounds_toArray, List.set_cons_zero, List.set_cons_succ, i64_w, i32_w]
 rfl)
 refine pu_ 9 (some 53) (bl_ 11 1023) ?_
 refine pu_ 10 (some 54) (bl_ 11 2047) ?_
 refine done_ (done_of HT_.out (by kernel_rfl)) ?_
 try go_wp2
 go_roundg kj11
 case measure => have := HK1.out; have := HJ11.out; omega
 case rel => exact ⟨(wrap64 (x4_1 + 1)), (x411001_1), (x411002_1), (x411003_1), (x411004_1), (x411005_1), (x411006_1), (x411007_1), (by first | rfl | (simp; done) | (simp [*]; done)), H', ⟨by have := HK1.out; have := HJ11.out; omega⟩, ⟨by (with_reducible repeat (first | refine Ag ?_ _ | refine Af ?_ | refine Ae ?_ _)); exact BK409.out⟩, ⟨by (with_reducible repeat (first | refine Ag ?_ _ | refine Af ?_ | refine Ae ?_ _)); exact BK410.out⟩, ⟨by repeat (first | (with_reducible first | exact HB.out | apply Ak | apply Ah | apply Aj | refine Ao ?_ GE409.out | refine Ao ?_ GE410.out) | exact HB.out)⟩⟩))
 ·(
 rw [if_neg c49] at H
 exact absurd H (by simp)))
 ·(
 rw [if_neg c48] at H
 exact absurd H (by simp))))))))
 ·(
 rw [if_neg c7] at H
 exact absurd H (by simp)))
 ·(
 rw [if_neg c6] at H
 have c6b0 : decide (x4_1 < (l0.length : Int)) = false := decide_eq_false c6
 clear c6
 simp only [Option.some.injEq, Prod.mk.injEq] at H
 obtain ⟨rfl, rfl, rfl, rfl, rfl, rfl, rfl, rfl⟩ := H
 have hnb58 := NB410_409.out
 have hnc58 := NB409_410.out
 obtain ⟨C59_0, C59_1, C59_2, C59_3, C59_4, C59_5, C59_6, C59_7⟩ := cz8_ BK410.out
 obtain ⟨F59_0, F59_1, F59_2, F59_3, F59_4, F59_5, F59_6, F59_7⟩ := fz8_ BK410.out
 obtain ⟨C60_0, C60_1, C60_2, C60_3, C60_4, C60_5, C60_6, C60_7⟩ := cz8_ BK409.out
 obtain ⟨F60_0, F60_1, F60_2, F60_3, F60_4, F60_5, F60_6, F60_7⟩ := fz8_ BK409.out
 go_wp2
 refine bodyPost_ret (results_cell_row rfl _ _ gb409 33 #[.int .i64 (l0.length : Int), .int .i64 x411001_1, .bool x411002_1, .int .i64 x411003_1, .string x411004_1, .bool x411005_1, .int .i64 x411006_1, .string x411007_1] (0, 0) _ rfl (by (with_reducible repeat (first | refine Ag ?_ _ | refine Af ?_ | refine Ae ?_ _)); apply blk_all8_; (with_reducible repeat (first | refine Ag ?_ _ | refine Af ?_ | refine Ae ?_ _)); exact BK409.out) Try.underlying33 rfl (by kernel_rfl)) rfl ?_
 exact en_ HB)))
def Bi.l0 : Nat → List (List (S24)) → Int → List (S24) → Int → Option ((List (S24)))
 | 0, _, _, _, _ => none
 | k + 1, x0, x1, x5, x6 => if x6 < (x0.length : Int) then (if 0 ≤ x6 then (if 0 ≤ x1 then (if x1 < ((rd_L8 x0 x6).length : Int) then (if x5.length < 4398046511104 then (Bi.l0 k x0 x1 (x5 ++ [(⟨(Ax (rd_L8 x0 x6) x1).f0, (Ax (rd_L8 x0 x6) x1).f1, (Ax (rd_L8 x0 x6) x1).f2⟩ : S24)]) (wrap64 (x6 + 1))) else (none)) else (none)) else (none)) else (none)) else (some x5)
def Bi.f (k : Nat) (l0 : List (List (S24))) (a1 : Int) : Option ((List (S24))) := Bi.l0 k l0 a1 (([] : List (S24))) 0
theorem Bi.mono_l : ∀ k, (∀ y0 y1 y2 y3, LeO (Bi.l0 k y0 y1 y2 y3) (Bi.l0 (k + 1) y0 y1 y2 y3))
 | 0 => fun _ _ _ _ r h => by simp [Bi.l0] at h
 | k + 1 => by
  have ih0 := Bi.mono_l k
  ·intro y0 y1 y2 y3
   unfold Bi.l0
   repeat' first|(with_reducible first|exact ih0 _ _ _ _|exact LeO.refl _|exact LeO.none _|refine LeO.ite ?_ ?_|refine LeO.bind ?_ fun _=>?_)|exact ih0 _ _ _ _|exact LeO.none _|refine LeO.ite ?_ ?_|refine LeO.bind ?_ fun _=>?_
theorem Bi.mono : ∀ a0 a1 k, LeO (Bi.f k a0 a1) (Bi.f (k + 1) a0 a1) := by
 intro a0 a1 k
 have ih0 := Bi.mono_l k
 unfold Bi.f
 repeat' first|(with_reducible first|exact ih0 _ _ _ _|exact LeO.refl _|exact LeO.none _|refine LeO.ite ?_ ?_|refine LeO.bind ?_ fun _=>?_)|exact ih0 _ _ _ _|exact LeO.none _|refine LeO.ite ?_ ?_|refine LeO.bind ?_ fun _=>?_
set_option maxHeartbeats 8000000 in
set_option maxRecDepth 100000 in
theorem Bi.calls (k : Nat) (A0 : Option Addr) (c0 : Nat) (l0 : List (List (S24))) (a1 : Int) (r : List (S24)) (w : World) (hr0 : Kd.C (Kd.slice 24 k24) w A0 l0.length l0) (hc0 : l0.length ≤ c0) (h : Bi.f k l0 a1 = some r) :
  Calls Try.prog 19 #[.slice A0 l0.length c0, .int .i64 a1] w fun e w' => ∃ v0_ : Value, e = .returned (v0_) ∧ Kd.R k24 24 w' w.heap.size (fun _ => True) v0_ r ∧ Below w.heap.size w w' := by
 have hu24 := Try.underlying24
 have HR0 := Aa.mk hr0
 have HC0 := Aa.mk hc0
 clear hr0 hc0
 have HB := Aa.mk (Below.refl w.heap.size w)
 have H : (Bi.l0 k l0 a1 (([] : List (S24))) 0) = some r := h
 clear h
 obtain ⟨y423, hy423⟩ : ∃ y_ : List (S24), y_ = (([] : List (S24))) := ⟨_, rfl⟩
 replace H : (Bi.l0 k l0 a1 y423 0) = some r := by first | (rw [hy423]; with_reducible exact H) | (have H2_ := (Option.bind_some _ _).symm.trans H; rw [hy423]; with_reducible exact H2_) | (have H2_ := (Option.bind_some _ _).symm.trans H; with_reducible exact H2_) | with_reducible exact H | (rw [hy423]; exact H) | exact H
 have Ny423 := Aa.mk hy423
 clear hy423
 have H' := Aa.mk H
 clear H
 go_enter Try.func19, Try.ntmps19
 go_wp2_with (first | ((with_reducible refine Cv (N := 7) rfl ?_); refine Kd.R_lit k24 _ 24 ?hg (N := 7) ?hd (xs := ([] : List (S24))) (inner := []) (ok := fun _ => True) (okp := fun _ => True) ?hr ?hp (fun _ hk => hk) trivial (Below.refl _ _) (Nat.le_refl _) (by simp) ?_; (case hd => rfl); (case hg => rfl); (case hr => first | (go_simp; done) | (go_simp; rfl)); (case hp => exact (Reps.none _ _)); intro v424 w3 ho4 hb hg_ hnew_; clear hg_ hnew_; (first | rw [← Ny423.out] at ho4 | (simp only [Int.reduceToNat] at ho4; rw [← Ny423.out] at ho4)); have HO425 := Aa.mk (Kd.R_lower ho4 (Ca (by repeat (first | (with_reducible first | exact HB.out | apply Ak | apply Ah | apply Aj) | exact HB.out)))); replace HB := bs_ HB hb; clear hb ho4))
 go_loopg [5, 6] k (fun kq v5 v6 w' => ∃ (x5_1 : List (S24)) (x6_1 : Int), v6 = .int .i64 x6_1 ∧ Aa (Bi.l0 kq l0 a1 x5_1 x6_1 = some r) ∧ Aa (kq ≤ k) ∧ Aa (Kd.R k24 24 w' w.heap.size (fun _ => True) v5 x5_1) ∧ Aa (Below w.heap.size w w'))
 case atStart => exact ⟨_, _, (by first | rfl | (simp; done) | (simp [*]; done)), H', ⟨Nat.le_refl _⟩, ⟨by (with_reducible repeat (first | apply Kd.R_alloc | apply Kd.R_drewN | apply Kd.R_drew)); exact HO425.out⟩, ⟨by repeat (first | (with_reducible first | exact HB.out | apply Ak | apply Ah | apply Aj) | exact HB.out)⟩⟩
 case round =>(
 clear H'
 obtain ⟨x5_1, x6_1, rfl, HA, HK1, HO_5, HB⟩ := hrel
 cases gk with
 | zero => exact absurd HA.out (by simp [Bi.l0])
 | succ k1 =>(
 have H := HA.out
 clear HA
 simp only [Bi.l0] at H
 by_cases c5 : x6_1 < (l0.length : Int)
 ·(
 rw [if_pos c5] at H
 have c5b0 : decide (x6_1 < (l0.length : Int)) = true := decide_eq_true c5
 clear c5
 by_cases c6 : 0 ≤ x6_1
 ·(
 rw [if_pos c6] at H
 have c6b0 : decide (0 ≤ x6_1) = true := decide_eq_true c6
 clear c6
 by_cases c7 : 0 ≤ a1
 ·(
 rw [if_pos c7] at H
 have c7b0 : decide (0 ≤ a1) = true := decide_eq_true c7
 clear c7
 by_cases c8 : a1 < ((rd_L8 l0 x6_1).length : Int)
 ·(
 rw [if_pos c8] at H
 have c8b0 : decide (a1 < ((rd_L8 l0 x6_1).length : Int)) = true := decide_eq_true c8
 clear c8
 by_cases c9 : x5_1.length < 4398046511104
 ·(
 rw [if_pos c9] at H
 have LMc9 := Aa.mk c9
 clear c9
 obtain ⟨y428, hy428⟩ : ∃ y_ : List (S24), y_ = (x5_1 ++ [(⟨(Ax (rd_L8 l0 x6_1) a1).f0, (Ax (rd_L8 l0 x6_1) a1).f1, (Ax (rd_L8 l0 x6_1) a1).f2⟩ : S24)]) := ⟨_, rfl⟩
 replace H : (Bi.l0 k1 l0 a1 y428 (wrap64 (x6_1 + 1))) = some r := by first | (rw [hy428]; with_reducible exact H) | (have H2_ := (Option.bind_some _ _).symm.trans H; rw [hy428]; with_reducible exact H2_) | (have H2_ := (Option.bind_some _ _).symm.trans H; with_reducible exact H2_) | with_reducible exact H | (rw [hy428]; exact H) | exact H
 have Ny428 := Aa.mk hy428
 clear hy428
 have H' := Aa.mk H
 clear H
 have p426 : 0 ≤ (x6_1 : Int) := dt_
 have q426 : x6_1 < (l0.length : Int) := dt_
 obtain ⟨ad426, A426_0, c426_0, e426, hx426_0, hl426_0, hi426_0⟩ := at_L8 HR0.out x6_1 p426 q426
 cases e426
 replace hx426_0 := hc_ HB hx426_0
 have HR426_0 := Aa.mk hi426_0
 have HC426_0 := Aa.mk hl426_0
 clear hi426_0 hl426_0
 replace p426 := eq_true p426
 replace q426 := eq_true q426
 have p427 : 0 ≤ (a1 : Int) := dt_
 have q427 : a1 < ((rd_L8 l0 x6_1).length : Int) := dt_
 obtain ⟨ad427, e427, hx427_0, hx427_1, hx427_2⟩ := at_T24 HR426_0.out a1 p427 q427
 cases e427
 replace hx427_0 := hc_ HB hx427_0
 replace hx427_1 := hc_ HB hx427_1
 replace hx427_2 := hc_ HB hx427_2
 replace p427 := eq_true p427
 replace q427 := eq_true q427
 go_wp2_with (first | ((with_reducible refine Dg (b := .append) (xs := #[.tmp 14, .tmp 22]) rfl ?_); at_builtin; refine Kd.R_append k24 (w0 := w) w.heap.size rfl (.tmp 14) (.tmp 22) 50 24 (.agg #[(.bool false), (.int .i64 0), (.string ⟨#[]⟩)]) 32 rfl Try.underlying50 info24 rfl (by decide) (by omega) u5 x5_1 (⟨(Ax (rd_L8 l0 x6_1) a1).f0, (Ax (rd_L8 l0 x6_1) a1).f1, (Ax (rd_L8 l0 x6_1) a1).f2⟩ : S24) [.bool ((Ax (rd_L8 l0 x6_1) a1).f0), .int .i64 ((Ax (rd_L8 l0 x6_1) a1).f1), .string ((Ax (rd_L8 l0 x6_1) a1).f2)] (fun _ => True) (fun _ => False) rfl rfl ?aP (fun _ hk => hk.elim) ?aF ?aO ?aB ?aS ?aL ?_; (case aP => exact k24_mkM _ _ _ (⟨(Ax (rd_L8 l0 x6_1) a1).f0, (Ax (rd_L8 l0 x6_1) a1).f1, (Ax (rd_L8 l0 x6_1) a1).f2⟩ : S24)); (case aB => exact (by repeat (first | (with_reducible first | exact HB.out | apply Ak | apply Ah | apply Aj) | exact HB.out))); (case aF => exact (fun _ _ => trivial)); (case aO => exact (by (with_reducible repeat (first | apply Kd.R_alloc | apply Kd.R_drewN | apply Kd.R_drew)); exact HO_5.out)); (case aS => exact (Ca (by repeat (first | (with_reducible first | exact HB.out | apply Ak | apply Ah | apply Aj) | exact HB.out)))); (case aL => have := LMc9.out; omega); intro v429 w10 ho hb hg hat; rw [← Ny428.out] at ho; have HO430 := Aa.mk (ho); replace HB := Aa.mk (hb); clear ho hb hg hat))
 go_roundg k1
 case measure => have := HK1.out; omega
 case rel => exact ⟨_, _, (by first | rfl | (simp; done) | (simp [*]; done)), H', ⟨by have := HK1.out; omega⟩, ⟨by (with_reducible repeat (first | apply Kd.R_alloc | apply Kd.R_drewN | apply Kd.R_drew)); exact HO430.out⟩, ⟨by repeat (first | (with_reducible first | exact HB.out | apply Ak | apply Ah | apply Aj) | exact HB.out)⟩⟩)
 ·(
 rw [if_neg c9] at H
 exact absurd H (by simp)))
 ·(
 rw [if_neg c8] at H
 exact absurd H (by simp)))
 ·(
 rw [if_neg c7] at H
 exact absurd H (by simp)))
 ·(
 rw [if_neg c6] at H
 exact absurd H (by simp)))
 ·(
 rw [if_neg c5] at H
 have c5b0 : decide (x6_1 < (l0.length : Int)) = false := decide_eq_false c5
 clear c5
 obtain rfl := Dp H
 go_wp2
 go_ret
 exact ⟨_, by first | rfl | (simp [errW_none, errW_some] <;> rfl) | (simp [*, errW_none, errW_some] <;> rfl), by (with_reducible repeat (first | apply Kd.R_alloc | apply Kd.R_drewN | apply Kd.R_drew)); exact HO_5.out, by repeat (first | (with_reducible first | exact HB.out | apply Ak | apply Ah | apply Aj) | exact HB.out)⟩)))
def flatZ (z : S33) : Int × Int × Bool × Int × ByteArray × Bool × Int × ByteArray := (z.f0, z.f1, z.f2.f0, z.f2.f1, z.f2.f2, z.f3.f0, z.f3.f1, z.f3.f2)
theorem rd24_get (l : List S24) (i : Nat) (h : i < l.length) : Ax l (i : Int) = l[i] := by
 simp only [Ax, Int.toNat_natCast, List.getD_eq_getElem?_getD, List.getElem?_eq_getElem h, Option.getD_some]
theorem of_tot (l : List S24) (hl : l.length ≤ 9223372036854775806) : TotP (fun r => r = flatZ (ofZ l)) (fun k => Am.f k l) := by
 have key : ∀ (n i : Nat) (z : S33), i + n = l.length → 0 ≤ z.f1 → z.f1 ≤ i →
    TotP (fun r => r = flatZ (ofFrom (l.drop i) i z)) (fun k => Am.l0 k l (i : Int) z.f0 z.f1 z.f2.f0 z.f2.f1 z.f2.f2 z.f3.f0 z.f3.f1 z.f3.f2) := by
  intro n
  induction n with
  | zero =>
    intro i z hi h0 h1
    refine TotP.succ (fun k => by simp only [Am.l0]; rfl) ?_
    refine TotP.ite (fun h => absurd h (by omega)) (fun _ => TotP.some_ ?_)
    rw [List.drop_of_length_le (by omega)]
    rfl
  | succ n ih =>
    intro i z hi h0 h1
    have hd : l.drop i = Ax l (i : Int) :: l.drop (i + 1) := by
      rw [rd24_get l i (by omega)]
      exact List.drop_eq_getElem_cons (by omega)
    have ihz : ∀ z' : S33, 0 ≤ z'.f1 → z'.f1 ≤ (i : Int) + 1 → ofStep z i (Ax l (i : Int)) = z' →
        TotP (fun r => r = flatZ (ofFrom (l.drop i) i z)) (fun k => Am.l0 k l (wrap64 ((i : Int) + 1)) z'.f0 z'.f1 z'.f2.f0 z'.f2.f1 z'.f2.f2 z'.f3.f0 z'.f3.f1 z'.f3.f2) := by
      intro z' h2 h3 h4
      have := ih (i + 1) z' (by omega) h2 (by omega)
      rw [wrap_in (by omega) (by omega), show (i : Int) + 1 = ((i + 1 : Nat) : Int) by omega]
      rw [hd]
      show TotP (fun r => r = flatZ (ofFrom (l.drop (i + 1)) ((i : Int) + 1) (ofStep z i (Ax l (i : Int))))) _
      rw [h4, show (i : Int) + 1 = ((i + 1 : Nat) : Int) by omega]
      exact this
    refine TotP.succ (fun k => by simp only [Am.l0]; rfl) ?_
    refine TotP.ite (fun _ => ?_) (fun h => absurd (by omega) h)
    refine TotP.ite (fun _ => ?_) (fun h => absurd (by omega) h)
    refine TotP.ite (fun hn => ?_) (fun hn => ?_)
    · rw [wrap_in (i := z.f1 + 1) (by omega) (by omega)]
      exact ihz ⟨z.f0, z.f1 + 1, z.f2, z.f3⟩ (by show 0 ≤ z.f1 + 1; omega) (by show z.f1 + 1 ≤ _; omega) (by unfold ofStep; rw [if_pos hn])
    · have hstep : ∀ z' : S33, z'.f0 = z.f0 → z'.f1 = z.f1 → z'.f2 = (if z.f1 = (i : Int) ∨ ordC (Ax l (i : Int)) z.f2 < 0 then Ax l (i : Int) else z.f2) → z'.f3 = (if z.f1 = (i : Int) ∨ ordC (Ax l (i : Int)) z.f3 > 0 then Ax l (i : Int) else z.f3) →
          TotP (fun r => r = flatZ (ofFrom (l.drop i) i z)) (fun k => Am.l0 k l (wrap64 ((i : Int) + 1)) z'.f0 z'.f1 z'.f2.f0 z'.f2.f1 z'.f2.f2 z'.f3.f0 z'.f3.f1 z'.f3.f2) := by
        intro z' e0 e1 e2 e3
        refine ihz z' (by omega) (by omega) ?_
        unfold ofStep
        rw [if_neg hn, ← e0, ← e2, ← e3, ← e1]
      have hgt : ∀ t : Int, t = ordC (Ax l (i : Int)) z.f3 → t > 0 → ordC (Ax l (i : Int)) z.f3 > 0 := fun t h h' => by rw [← h]; exact h'
      have hle : ∀ t : Int, t = ordC (Ax l (i : Int)) z.f3 → ¬ t > 0 → ordC (Ax l (i : Int)) z.f3 > 0 → False := fun t h h' h2 => by rw [← h] at h2; exact h' h2
      have J : ∀ b5 b38 : Bool, b5 = decide (z.f1 = (i : Int)) → b38 = decide (z.f1 = (i : Int) ∨ ordC (Ax l (i : Int)) z.f2 < 0) →
          TotP (fun r => r = flatZ (ofFrom (l.drop i) i z)) (fun k => Am.j1 k l (i : Int) b5 b38 z.f0 z.f1 z.f2.f0 z.f2.f1 z.f2.f2 z.f3.f0 z.f3.f1 z.f3.f2) := by
        intro b5 b38 h5 h38
        refine TotP.succ (fun k => by simp only [Am.j1]; rfl) ?_
        refine TotP.ite (fun e38 => ?_) (fun e38 => ?_)
        · have q38 : z.f1 = (i : Int) ∨ ordC (Ax l (i : Int)) z.f2 < 0 := of_decide_eq_true (h38.symm.trans e38)
          refine TotP.ite (fun _ => ?_) (fun h => absurd (by omega) h)
          refine TotP.ite (fun _ => ?_) (fun h => absurd (by omega) h)
          refine TotP.ite (fun e5 => ?_) (fun e5 => ?_)
          · have q5 : z.f1 = (i : Int) := of_decide_eq_true (h5.symm.trans e5)
            exact hstep ⟨z.f0, z.f1, Ax l (i : Int), Ax l (i : Int)⟩ rfl rfl (by rw [if_pos q38]) (by rw [if_pos (.inl q5)])
          · have q5 : ¬ z.f1 = (i : Int) := fun h => e5 (by rw [h5]; exact decide_eq_true h)
            refine TotP.bind (ord09 _ _ _ _ _ _) (fun t ht => ?_)
            refine TotP.ite (fun ht0 => ?_) (fun ht0 => ?_)
            · exact hstep ⟨z.f0, z.f1, Ax l (i : Int), Ax l (i : Int)⟩ rfl rfl (by rw [if_pos q38]) (by rw [if_pos (.inr (hgt t ht ht0))])
            · exact hstep ⟨z.f0, z.f1, Ax l (i : Int), z.f3⟩ rfl rfl (by rw [if_pos q38]) (by rw [if_neg (fun h => h.elim q5 (hle t ht ht0))])
        · have q38 : ¬ (z.f1 = (i : Int) ∨ ordC (Ax l (i : Int)) z.f2 < 0) := fun h => e38 (by rw [h38]; exact decide_eq_true h)
          refine TotP.ite (fun e5 => ?_) (fun e5 => ?_)
          · exact absurd (.inl (of_decide_eq_true (h5.symm.trans e5))) q38
          · have q5 : ¬ z.f1 = (i : Int) := fun h => e5 (by rw [h5]; exact decide_eq_true h)
            refine TotP.ite (fun _ => ?_) (fun h => absurd (by omega) h)
            refine TotP.ite (fun _ => ?_) (fun h => absurd (by omega) h)
            refine TotP.bind (ord09 _ _ _ _ _ _) (fun t ht => ?_)
            refine TotP.ite (fun ht0 => ?_) (fun ht0 => ?_)
            · exact hstep ⟨z.f0, z.f1, z.f2, Ax l (i : Int)⟩ rfl rfl (by rw [if_neg q38]) (by rw [if_pos (.inr (hgt t ht ht0))])
            · exact hstep ⟨z.f0, z.f1, z.f2, z.f3⟩ rfl rfl (by rw [if_neg q38]) (by rw [if_neg (fun h => h.elim q5 (hle t ht ht0))])
      refine TotP.ite (fun e5 => ?_) (fun e5 => ?_)
      · exact J _ _ (by rw [Bool.eq_iff_iff]; simp) (by simp [e5])
      · refine TotP.bind (ord09 _ _ _ _ _ _) (fun t ht => ?_)
        exact J _ _ (by rw [Bool.eq_iff_iff]; simp) (by have e : t = ordC (Ax l (i : Int)) z.f2 := ht; rw [e]; simp [e5])
 unfold Am.f ofZ
 have := key l.length 0 ⟨l.length, 0, zC, zC⟩ (by omega) (by show (0 : Int) ≤ 0; omega) (by show (0 : Int) ≤ _; omega)
 rw [List.drop_zero, show ((0 : Nat) : Int) = 0 from rfl] at this
 exact this
theorem cells_tot (l2 : List (List S24)) (c : Nat) (hl : l2.length ≤ 4000000000) (hw : ∀ r, r ∈ l2 → c < r.length) : TotP (fun r => r = l2.map (fun row => Ax row (c : Int))) (fun k => Bi.f k l2 (c : Int)) := by
 have key : ∀ (n i : Nat), i + n = l2.length → TotP (fun r => r = l2.map (fun row => Ax row (c : Int))) (fun k => Bi.l0 k l2 (c : Int) ((l2.take i).map fun row => Ax row (c : Int)) (i : Int)) := by(
 intro n
 induction n with
 | zero =>(
 intro i hi
 refine TotP.succ (fun k => by simp only [Bi.l0]; rfl) ?_
 refine TotP.ite (fun h => absurd h (by omega)) (fun _ => TotP.some_ ?_)
 rw [List.take_of_length_le (by omega)])
 | succ n ih =>(
 intro i hi
 have hr : rd_L8 l2 (i : Int) = l2[i]'(by omega) := rdL8_get l2 i (by omega)
 have hwi : c < (l2[i]'(by omega)).length := hw _ (List.getElem_mem _)
 refine TotP.succ (fun k => by simp only [Bi.l0]; rfl) ?_
 refine TotP.ite (fun _ => ?_) (fun h => absurd (by omega) h)
 refine TotP.ite (fun _ => ?_) (fun h => absurd (by omega) h)
 refine TotP.ite (fun _ => ?_) (fun h => absurd (by omega) h)
 refine TotP.ite (fun _ => ?_) (fun h => absurd (by rw [hr]; omega) h)
 refine TotP.ite (fun _ => ?_) (fun h => absurd (by rw [List.length_map, List.length_take]; omega) h)
 have := ih (i + 1) (by omega)
 rw [wrap_in (by omega) (by omega), show (i : Int) + 1 = ((i + 1 : Nat) : Int) by omega]
 have ht : (l2.take (i + 1)).map (fun row => Ax row (c : Int)) = (l2.take i).map (fun row => Ax row (c : Int)) ++ [Ax (rd_L8 l2 (i : Int)) (c : Int)] := by(
 rw [hr, List.take_add_one, List.getElem?_eq_getElem (show i < l2.length by omega), List.map_append]
 rfl)
 rw [ht] at this
 exact this))
 have := key l2.length 0 (by omega)
 rw [List.take_zero, show ((0 : Nat) : Int) = 0 from rfl] at this
 exact this
def okFrom (l : List S64) (zs : List S33) : Nat → Nat → Bool
  | 0, _ => true
  | n + 1, i => zmB (Bj l (i : Int)).f1 (Au zs (i : Int)).f0 (Au zs (i : Int)).f1 (Au zs (i : Int)).f2.f0 (Au zs (i : Int)).f2.f1 (Au zs (i : Int)).f2.f2 (Au zs (i : Int)).f3.f0 (Au zs (i : Int)).f3.f1 (Au zs (i : Int)).f3.f2 && okFrom l zs n (i + 1)
def endR (b : Bool) (t : Bool × Bool × Bool) : Bool × Bool × Bool × Int := if b = true then (t.1, t.2.1, t.2.2, 0) else (false, false, false, 1)
def askE (l : List S64) (zs : List S33) (x : S27) : Bool × Bool × Bool × Int :=
  if fitsE l x = 0 then (if zs.length = l.length then endR (okFrom l zs zs.length 0) (askR l zs 6 x) else (false, false, false, 1)) else (false, false, false, fitsE l x)
theorem loopA (l : List S64) (zs : List S33) (x : S27) (hz : zs.length = l.length) (hzl : zs.length ≤ 9223372036854775806) (t : Bool × Bool × Bool) (h : TotP (fun r => r = t) (fun k => Av.f k l zs x.f0 x.f1 x.f2 x.f3.f0 x.f3.f1 x.f3.f2 x.f4 x.f5 x.f6)) :
    ∀ (n i : Nat), i + n = zs.length → TotP (fun r => r = endR (okFrom l zs n i) t) (fun k => Bo.l0 k l zs zs (zs.length : Int) (i : Int) x.f0 x.f1 x.f2 x.f3.f0 x.f3.f1 x.f3.f2 x.f4 x.f5 x.f6) := by
 intro n
 induction n with
 | zero =>(
 intro i hi
 refine TotP.succ (fun k => by simp only [Bo.l0]; rfl) ?_
 refine TotP.ite (fun h' => absurd h' (by omega)) (fun _ => ?_)
 exact TotP.bind h (fun r hr => TotP.some_ (by rw [hr]; rfl)))
 | succ n ih =>(
 intro i hi
 refine TotP.succ (fun k => by simp only [Bo.l0]; rfl) ?_
 refine TotP.ite (fun _ => ?_) (fun h' => absurd (by omega) h')
 refine TotP.ite (fun _ => ?_) (fun h' => absurd (by omega) h')
 refine TotP.ite (fun _ => ?_) (fun h' => absurd (by omega) h')
 refine TotP.ite (fun _ => ?_) (fun h' => absurd (by omega) h')
 refine TotP.bind (zm _ _ _ _ _ _ _ _ _) (fun b hb => ?_)
 refine TotP.ite (fun g => ?_) (fun g => TotP.some_ ?_)
 ·(
 rw [wrap_in (by omega) (by omega), show (i : Int) + 1 = ((i + 1 : Nat) : Int) by omega]
 refine (ih (i + 1) (by omega)).weak (fun r hr => ?_)
 rw [hr, okFrom, ← hb, g, Bool.true_and])
 ·rw [okFrom, ← hb, Bool.eq_false_iff.2 g]; rfl)
theorem fits_good (l : List S64) (x : S27) (h : fitsE l x = 0) : Good mayStep 6 x ∧ Good (typedStep l) 6 x := by
 unfold fitsE at h
 by_cases hc : mayB x = true ∧ checkE l = 0
 ·(
 rw [if_pos hc] at h
 cases hb : (ev (typedStep l) 6 x ()).1
 ·rw [hb] at h; simp at h
 ·exact ⟨⟨0, hc.1⟩, ⟨(), hb⟩⟩)
 ·(
 rw [if_neg hc] at h
 omega)
theorem askA (l : List S64) (zs : List S33) (x : S27) (hzl : zs.length ≤ 9223372036854775806) (hl : Lens 6 x) : TotP (fun r => r = askE l zs x) (fun k => Bo.f k l x.f0 x.f1 x.f2 x.f3.f0 x.f3.f1 x.f3.f2 x.f4 x.f5 x.f6 zs) := by
 unfold Bo.f askE
 simp only [Db.f, Option.bind_some]
 refine TotP.ite (fun h0 => ?_) (fun h0 => TotP.some_ (if_neg (show ¬ fitsE l x = 0 from h0)).symm)
 rw [if_pos (show fitsE l x = 0 from h0)]
 refine TotP.ite (fun hz => ?_) (fun hz => TotP.some_ (by rw [if_neg (by omega)]))
 rw [if_pos (show zs.length = l.length by omega)]
 obtain ⟨hm, ht⟩ := fits_good l x h0
 have := loopA l zs x (by omega) hzl _ (askR_tot l zs (by omega) 6 x hl hm ht) zs.length 0 (by omega)
 simpa using this
theorem live_tot : TotP (fun r => r = true) (fun k => Bn.f k) := by
 refine ⟨true, ⟨60, fun k hk => ?_⟩, rfl⟩
 obtain ⟨n, rfl⟩ : ∃ n, k = 60 + n := ⟨k - 60, by omega⟩
 clear hk
 induction n with
 | zero => exact live21
 | succ n ih => exact Bn.mono (60 + n) true ih
theorem colsOk_ty : ∀ (l seen : List S64), colsOk seen l = true → ∀ y, y ∈ l → 1 ≤ y.f1 ∧ y.f1 ≤ 3
  | [], _, _, y, hy => by cases hy
  | x :: r, seen, h, y, hy => by
    rw [colsOk, Bool.and_eq_true] at h
    rcases List.mem_cons.1 hy with rfl | hy
    · have h1 := h.1
      unfold colOk at h1
      simp only [Bool.and_eq_true, decide_eq_true_eq] at h1
      exact h1.2.2
    · exact colsOk_ty r _ h.2 y hy
theorem check_ty (l : List S64) (h : checkE l = 0) : ∀ y, y ∈ l → 1 ≤ y.f1 ∧ y.f1 ≤ 3 := by
 unfold checkE at h
 by_cases h0 : l.length = 0
 ·rw [if_pos h0] at h; omega
 ·(
 rw [if_neg h0] at h
 by_cases hc : colsOk [] l = true
 ·exact colsOk_ty l [] hc
 ·rw [if_neg hc] at h; omega)
theorem fits_check (l : List S64) (x : S27) (h : fitsE l x = 0) : checkE l = 0 := by
 unfold fitsE at h
 by_cases hc : mayB x = true ∧ checkE l = 0
 ·exact hc.2
 ·rw [if_neg hc] at h; omega
theorem cm_of (ty : Int) (n : Bool) (b : Int) (c : ByteArray) (h : Br.f ty n false b c = some true) : cmB ty false b c = true := by
 have e : Br.f ty false false b c = Br.f ty n false b c := by(
 unfold Br.f
 simp only [Bool.false_eq_true, if_false])
 unfold cmB
 rw [e, h]
 rfl
theorem zone_may (ty : Int) (ht : 1 ≤ ty ∧ ty ≤ 3) (l : List S24) (hl : l.length ≤ 4096) (hm : ∀ c, c ∈ l → ∃ n, Br.f ty n c.f0 c.f1 c.f2 = some true) :
    zmB ty (ofZ l).f0 (ofZ l).f1 (ofZ l).f2.f0 (ofZ l).f2.f1 (ofZ l).f2.f2 (ofZ l).f3.f0 (ofZ l).f3.f1 (ofZ l).f3.f2 = true := by
 obtain ⟨h1, h2, h3, h4, h5, h6⟩ := ofZ_inv l
 unfold zmB
 rw [if_pos ⟨ht, by omega, by omega, by omega⟩]
 by_cases he : (ofZ l).f1 = (ofZ l).f0
 ·(
 rw [if_pos he]
 obtain ⟨e1, e2⟩ := h4 (by omega)
 rw [e1, e2]
 simp [emB, zC, ByteArray.toList_eq])
 ·(
 rw [if_neg he]
 obtain ⟨⟨m1, n1⟩, ⟨m2, n2⟩⟩ := h5 (by omega)
 obtain ⟨k1, q1⟩ := hm _ m1
 obtain ⟨k2, q2⟩ := hm _ m2
 rw [n1] at q1
 rw [n2] at q2
 have hc := h6 _ m1
 rw [if_neg (by rw [n1]; decide)] at hc
 have ho : ord (ofZ l).f2.f0 (ofZ l).f2.f1 (ofZ l).f2.f2 (ofZ l).f3.f0 (ofZ l).f3.f1 (ofZ l).f3.f2 ≤ 0 := hc.2.2
 rw [n1, n2] at ho ⊢
 rw [cm_of _ _ _ _ q1, cm_of _ _ _ _ q2, decide_eq_true ho]
 rfl)
def zonesOf (l : List S64) (l2 : List (List S24)) : List S33 := (List.range l.length).map fun (i : Nat) => ofZ (l2.map fun row => Ax row (i : Int))
theorem zones_at (l : List S64) (l2 : List (List S24)) (i : Nat) (h : i < l.length) : Au (zonesOf l l2) (i : Int) = ofZ (l2.map fun row => Ax row (i : Int)) := by
 unfold zonesOf
 simp only [Au, Int.toNat_natCast, List.getD_eq_getElem?_getD, List.getElem?_map, List.getElem?_range h, Option.map_some, Option.getD_some]
theorem row_may (l : List S64) (r : List S24) (h : rowB l r = true) : l.length = r.length ∧ ∀ i : Nat, i < l.length → Br.f (Bj l (i : Int)).f1 (Bj l (i : Int)).f2 (Ax r (i : Int)).f0 (Ax r (i : Int)).f1 (Ax r (i : Int)).f2 = some true := by
 unfold rowB at h
 rw [Bool.and_eq_true, decide_eq_true_eq] at h
 exact ⟨h.1, fun i hi => rowFrom_all l r l.length 0 h.2 i (by omega) (by omega)⟩
theorem zones_ok (l : List S64) (l2 : List (List S24)) (ht : ∀ y, y ∈ l → 1 ≤ y.f1 ∧ y.f1 ≤ 3) (hl : l2.length ≤ 4096) (hr : ∀ r, r ∈ l2 → rowB l r = true) : ∀ (n i : Nat), i + n = l.length → okFrom l (zonesOf l l2) n i = true
  | 0, _, _ => rfl
  | n + 1, i, hi => by
    rw [okFrom, Bool.and_eq_true]
    refine ⟨?_, zones_ok l l2 ht hl hr n (i + 1) (by omega)⟩
    rw [zones_at l l2 i (by omega)]
    have hty := ht (Bj l (i : Int)) (by rw [rd64_get l i (by omega)]; exact List.getElem_mem _)
    refine zone_may _ hty _ (by simpa using hl) (fun c hc => ?_)
    obtain ⟨r, hrm, rfl⟩ := List.mem_map.1 hc
    exact ⟨_, (row_may l r (hr r hrm)).2 i (by omega)⟩
theorem rowsA_fit (f : List S24 → Int × Int) : ∀ (l : List (List S24)) (i : Int) (acc : List Int), (rowsA f l i acc).2 = 0 → ∀ r, r ∈ l → (f r).2 = 0
  | [], _, _, _, r, hr => by cases hr
  | x :: xs, i, acc, h, r, hr => by
    rw [rowsA] at h
    by_cases h0 : (f x).2 = 0
    · rw [if_pos h0] at h
      rcases List.mem_cons.1 hr with rfl | hr
      · exact h0
      · by_cases h1 : (f x).1 = 1
        · rw [if_pos h1] at h; exact rowsA_fit f xs _ _ h r hr
        · rw [if_neg h1] at h; exact rowsA_fit f xs _ _ h r hr
    · rw [if_neg h0] at h; exact absurd h h0
theorem rowsA_none (f : List S24 → Int × Int) : ∀ (l : List (List S24)) (i : Int), (rowsA f l i []).2 = 0 → (∀ r, r ∈ l → (f r).1 ≠ 1) → (rowsA f l i []).1 = []
  | [], _, _, _ => rfl
  | x :: xs, i, h, hn => by
    rw [rowsA] at h ⊢
    by_cases h0 : (f x).2 = 0
    · rw [if_pos h0] at h ⊢
      rw [if_neg (hn x (List.mem_cons_self))] at h ⊢
      exact rowsA_none f xs _ h (fun r hr => hn r (List.mem_cons_of_mem _ hr))
    · rw [if_neg h0] at h; exact absurd h h0
theorem small13' (l0 : List S64) (l1 : List (List S24)) (hl0 : l0.length ≤ 9223372036854775807) (hl1 : l1.length ≤ 9223372036854775807) :
    TotP (fun r => r = true → (l0.length ≤ 20 ∧ ∀ y, y ∈ l0 → y.f0.size ≤ 100) ∧ l1.length ≤ 210) (fun k => Bc.f k l0 l1) := by
 unfold Bc.f
 have last : TotP (fun r => r = true → (l0.length ≤ 20 ∧ ∀ y, y ∈ l0 → y.f0.size ≤ 100) ∧ l1.length ≤ 210) (fun k => (Bd.f k l0).bind fun t => if t = true then some (decide ((l1.length : Int) ≤ 210)) else some false) := by(
 refine TotP.bind (small12 l0 hl0) (fun t ht => ?_)
 refine TotP.ite (fun h => TotP.some_ (fun h2 => ⟨ht h, ?_⟩)) (fun _ => TotP.some_ (fun h => by cases h))
 have := of_decide_eq_true h2
 omega)
 have key : ∀ (n i : Nat), i + n = l1.length → TotP (fun r => r = true → (l0.length ≤ 20 ∧ ∀ y, y ∈ l0 → y.f0.size ≤ 100) ∧ l1.length ≤ 210) (fun k => Bc.l0 k l0 l1 (i : Int)) := by(
 intro n
 induction n with
 | zero =>(
 intro i hi
 refine TotP.succ (fun k => by simp only [Bc.l0]; rfl) ?_
 refine TotP.ite (fun h => absurd h (by omega)) (fun _ => ?_)
 refine TotP.succ (fun k => by simp only [Bc.j1]; rfl) ?_
 exact TotP.ite (fun h => by cases h) (fun _ => last))
 | succ n ih =>(
 intro i hi
 refine TotP.succ (fun k => by simp only [Bc.l0]; rfl) ?_
 refine TotP.ite (fun _ => ?_) (fun h => absurd (by omega) h)
 refine TotP.succ (fun k => by simp only [Bc.j1]; rfl) ?_
 refine TotP.ite (fun _ => ?_) (fun _ => last)
 refine TotP.ite (fun _ => ?_) (fun h => absurd (by omega) h)
 refine TotP.ite (fun _ => ?_) (fun h => absurd (by omega) h)
 refine TotP.ite (fun _ => TotP.some_ (fun h => by cases h)) (fun hle => ?_)
 refine TotP.bind (small10 _ (by omega)) (fun t _ => ?_)
 refine TotP.ite (fun _ => ?_) (fun _ => TotP.some_ (fun h => by cases h))
 rw [wrap_in (by omega) (by omega), show (i : Int) + 1 = ((i + 1 : Nat) : Int) by omega]
 exact ih (i + 1) (by omega)))
 simpa using key l1.length 0 (by omega)
end Go.Proofs.Ytdedmhmomoejkaa.X
