/- Words and walks for evalRows_holds, part 10 of the texts that a program of this session laid together. -/
import Derived.Test.YtdedmhmomoejkaaT2
import Derived.Test.YtdedmhmomoejkaaT3
import Derived.Test.YtdedmhmomoejkaaT9
namespace Go.Proofs.Ytdedmhmomoejkaa.X
open Go.RowKit Go.Proofs.YtdedmhmomoejkaaW.PrintWords Go.Proofs.YtdedmhmomoejkaaW.PrintLast Go.Proofs.YtdedmhmomoejkaaW.PrintMore
attribute [local go_sem] max2_int max_two
set_option linter.unusedVariables false
set_option linter.unusedSimpArgs false
mutual
def eval_asker_ask.j0 : Nat → Bool → List (S64) → List (S24) → Int → ByteArray → Int → Bool → Int → ByteArray → Int → ByteArray → List (S27) → Option (Int)
 | 0, _, _, _, _, _, _, _, _, _, _, _, _ => none
 | k + 1, x21, x508000, x508001, x509000, x509001, x509002, x509003, x509004, x509005, x509006, x509007, x509008 => if x21 = true then ((eval_truth.f (x509000 == 7)).bind fun t512 => ((eval_not.f t512).bind fun t513 => (eval_asker_ask.l0 k t512 t513 x509008 (x509008.length : Int) 0 x508000 x508001))) else ((eval_asker_simple.f x508000 x508001 x509000 x509001 x509002 x509003 x509004 x509005 x509006 x509007 x509008).bind fun t517 => (some t517))
def eval_asker_ask.l0 : Nat → Int → Int → List (S27) → Int → Int → List (S64) → List (S24) → Option (Int)
 | 0, _, _, _, _, _, _, _ => none
 | k + 1, x5, x6, x31, x32, x33, x508000, x508001 => if x33 < x32 then (if 0 ≤ x33 then (if x33 < (x31.length : Int) then ((eval_asker_ask.f k x508000 x508001 ((rd_T27 x31 x33).f0) ((rd_T27 x31 x33).f1) ((rd_T27 x31 x33).f2) ((rd_T27 x31 x33).f3.f0) ((rd_T27 x31 x33).f3.f1) ((rd_T27 x31 x33).f3.f2) ((rd_T27 x31 x33).f4) ((rd_T27 x31 x33).f5) ((rd_T27 x31 x33).f6)).bind fun t516 => (if t516 = x5 then (some x5) else (if t516 = 2 then (eval_asker_ask.l0 k x5 2 x31 x32 (wrap64 (x33 + 1)) x508000 x508001) else (eval_asker_ask.l0 k x5 x6 x31 x32 (wrap64 (x33 + 1)) x508000 x508001)))) else (none)) else (none)) else (some x6)
def eval_asker_ask.f : Nat → List (S64) → List (S24) → Int → ByteArray → Int → Bool → Int → ByteArray → Int → ByteArray → List (S27) → Option (Int)
 | 0, _, _, _, _, _, _, _, _, _, _, _ => none
 | k + 1, l0_0, l0_1, a1_0, a1_1, a1_2, a1_3, a1_4, a1_5, a1_6, a1_7, l1_8 => if a1_0 = 5 then (if 0 < (l1_8.length : Int) then ((eval_asker_ask.f k l0_0 l0_1 ((rd_T27 l1_8 0).f0) ((rd_T27 l1_8 0).f1) ((rd_T27 l1_8 0).f2) ((rd_T27 l1_8 0).f3.f0) ((rd_T27 l1_8 0).f3.f1) ((rd_T27 l1_8 0).f3.f2) ((rd_T27 l1_8 0).f4) ((rd_T27 l1_8 0).f5) ((rd_T27 l1_8 0).f6)).bind fun t510 => ((eval_not.f t510).bind fun t511 => (some t511))) else (none)) else (if a1_0 = 6 then (eval_asker_ask.j0 k (a1_0 == 6) l0_0 l0_1 a1_0 a1_1 a1_2 a1_3 a1_4 a1_5 a1_6 a1_7 l1_8) else (eval_asker_ask.j0 k (a1_0 == 7) l0_0 l0_1 a1_0 a1_1 a1_2 a1_3 a1_4 a1_5 a1_6 a1_7 l1_8))
end
theorem eval_asker_ask.mono_l : ∀ k, (∀ y0 y1 y2 y3 y4 y5 y6 y7 y8 y9 y10, LeO (eval_asker_ask.f k y0 y1 y2 y3 y4 y5 y6 y7 y8 y9 y10) (eval_asker_ask.f (k + 1) y0 y1 y2 y3 y4 y5 y6 y7 y8 y9 y10)) ∧ (∀ y0 y1 y2 y3 y4 y5 y6 y7 y8 y9 y10 y11, LeO (eval_asker_ask.j0 k y0 y1 y2 y3 y4 y5 y6 y7 y8 y9 y10 y11) (eval_asker_ask.j0 (k + 1) y0 y1 y2 y3 y4 y5 y6 y7 y8 y9 y10 y11)) ∧ (∀ y0 y1 y2 y3 y4 y5 y6, LeO (eval_asker_ask.l0 k y0 y1 y2 y3 y4 y5 y6) (eval_asker_ask.l0 (k + 1) y0 y1 y2 y3 y4 y5 y6))
 | 0 => ⟨fun _ _ _ _ _ _ _ _ _ _ _ r h => by simp [eval_asker_ask.f] at h, fun _ _ _ _ _ _ _ _ _ _ _ _ r h => by simp [eval_asker_ask.j0] at h, fun _ _ _ _ _ _ _ r h => by simp [eval_asker_ask.l0] at h⟩
 | k + 1 => by
  obtain ⟨ih0, ih1, ih2⟩ := eval_asker_ask.mono_l k
  refine ⟨?_, ?_, ?_⟩
  ·intro y0 y1 y2 y3 y4 y5 y6 y7 y8 y9 y10
   unfold eval_asker_ask.f
   repeat' first
   | (with_reducible exact ih0 _ _ _ _ _ _ _ _ _ _ _)
   | (with_reducible exact ih1 _ _ _ _ _ _ _ _ _ _ _ _)
   | (with_reducible exact ih2 _ _ _ _ _ _ _)
   | (with_reducible exact LeO.refl _)
   | (with_reducible exact LeO.none _)
   | (with_reducible refine LeO.ite ?_ ?_)
   | (with_reducible refine LeO.bind ?_ (fun _ => ?_))
   | exact ih0 _ _ _ _ _ _ _ _ _ _ _
   | exact ih1 _ _ _ _ _ _ _ _ _ _ _ _
   | exact ih2 _ _ _ _ _ _ _
   | exact LeO.none _
   | refine LeO.ite ?_ ?_
   | refine LeO.bind ?_ (fun _ => ?_)
  ·intro y0 y1 y2 y3 y4 y5 y6 y7 y8 y9 y10 y11
   unfold eval_asker_ask.j0
   repeat' first
   | (with_reducible exact ih0 _ _ _ _ _ _ _ _ _ _ _)
   | (with_reducible exact ih1 _ _ _ _ _ _ _ _ _ _ _ _)
   | (with_reducible exact ih2 _ _ _ _ _ _ _)
   | (with_reducible exact LeO.refl _)
   | (with_reducible exact LeO.none _)
   | (with_reducible refine LeO.ite ?_ ?_)
   | (with_reducible refine LeO.bind ?_ (fun _ => ?_))
   | exact ih0 _ _ _ _ _ _ _ _ _ _ _
   | exact ih1 _ _ _ _ _ _ _ _ _ _ _ _
   | exact ih2 _ _ _ _ _ _ _
   | exact LeO.none _
   | refine LeO.ite ?_ ?_
   | refine LeO.bind ?_ (fun _ => ?_)
  ·intro y0 y1 y2 y3 y4 y5 y6
   unfold eval_asker_ask.l0
   repeat' first
   | (with_reducible exact ih0 _ _ _ _ _ _ _ _ _ _ _)
   | (with_reducible exact ih1 _ _ _ _ _ _ _ _ _ _ _ _)
   | (with_reducible exact ih2 _ _ _ _ _ _ _)
   | (with_reducible exact LeO.refl _)
   | (with_reducible exact LeO.none _)
   | (with_reducible refine LeO.ite ?_ ?_)
   | (with_reducible refine LeO.bind ?_ (fun _ => ?_))
   | exact ih0 _ _ _ _ _ _ _ _ _ _ _
   | exact ih1 _ _ _ _ _ _ _ _ _ _ _ _
   | exact ih2 _ _ _ _ _ _ _
   | exact LeO.none _
   | refine LeO.ite ?_ ?_
   | refine LeO.bind ?_ (fun _ => ?_)
theorem eval_asker_ask.mono : ∀ a0 a1 a2 a3 a4 a5 a6 a7 a8 a9 a10 k, LeO (eval_asker_ask.f k a0 a1 a2 a3 a4 a5 a6 a7 a8 a9 a10) (eval_asker_ask.f (k + 1) a0 a1 a2 a3 a4 a5 a6 a7 a8 a9 a10) := by
 intro a0 a1 a2 a3 a4 a5 a6 a7 a8 a9 a10 k
 obtain ⟨ih0, ih1, ih2⟩ := eval_asker_ask.mono_l k
 exact ih0 a0 a1 a2 a3 a4 a5 a6 a7 a8 a9 a10
def eval_asker_ask.T3 : Bool × List (List Nat × List Nat) := (true, [([], []), ([], []), ([1], [1]), ([2], [2]), ([3], [3]), ([0, 4], [0, 4]), ([5, 5], [5]), ([6, 6, 0, 1, 2, 3, 4, 5, 6], [6])])
def eval_asker_ask.B3 : List Nat := [0, 0, 2, 6, 14, 31, 63, 127]
theorem eval_asker_ask.tab3 : rtab .any (opsOf Try.f41 3) = eval_asker_ask.T3 := by kernel_rfl
theorem eval_asker_ask.bits3 : waitsOk eval_asker_ask.T3.2 eval_asker_ask.B3 = true := by kernel_rfl
set_option maxHeartbeats 8000000 in
set_option maxRecDepth 100000 in
theorem eval_asker_ask.calls (k : Nat) : ∀ (A0_0 : Option Addr) (c0_0 : Nat) (l0_0 : List (S64)) (A0_1 : Option Addr) (c0_1 : Nat) (l0_1 : List (S24)) (a1_0 : Int) (a1_1 : ByteArray) (a1_2 : Int) (a1_3 : Bool) (a1_4 : Int) (a1_5 : ByteArray) (a1_6 : Int) (a1_7 : ByteArray) (A1_8 : Option Addr) (c1_8 : Nat) (l1_8 : List (S27)) (r : Int) (w : World) (hr0_0 : Kd.C k64 w A0_0 l0_0.length l0_0) (hc0_0 : l0_0.length ≤ c0_0) (hr0_1 : Kd.C k24 w A0_1 l0_1.length l0_1) (hc0_1 : l0_1.length ≤ c0_1) (hr1_8 : Kd.C k27 w A1_8 l1_8.length l1_8) (hc1_8 : l1_8.length ≤ c1_8) (h : eval_asker_ask.f k l0_0 l0_1 a1_0 a1_1 a1_2 a1_3 a1_4 a1_5 a1_6 a1_7 l1_8 = some r),
  Calls Try.prog 41 #[.agg #[.slice A0_0 l0_0.length c0_0, .slice A0_1 l0_1.length c0_1], .agg #[.int .i64 a1_0, .string a1_1, .int .i64 a1_2, .bool a1_3, .int .i64 a1_4, .string a1_5, .int .i64 a1_6, .string a1_7, .slice A1_8 l1_8.length c1_8]] w fun e w' => e = .returned (.int .i64 r) ∧ Below w.heap.size w w' := by
 induction k using Nat.strongRecOn with
 | _ k ih =>
 intro A0_0 c0_0 l0_0 A0_1 c0_1 l0_1 a1_0 a1_1 a1_2 a1_3 a1_4 a1_5 a1_6 a1_7 A1_8 c1_8 l1_8 r w hr0_0 hc0_0 hr0_1 hc0_1 hr1_8 hc1_8 h
 cases k with
 | zero => exact absurd h (by simp [eval_asker_ask.f])
 | succ k =>
 simp only [eval_asker_ask.f] at h
 have hu81 := Try.underlying81
 have hu27 := Try.underlying27
 have HR0_0 := Aside0.mk hr0_0
 have HC0_0 := Aside0.mk hc0_0
 clear hr0_0 hc0_0
 have HR0_1 := Aside0.mk hr0_1
 have HC0_1 := Aside0.mk hc0_1
 clear hr0_1 hc0_1
 have HR1_8 := Aside0.mk hr1_8
 have HC1_8 := Aside0.mk hc1_8
 clear hr1_8 hc1_8
 have HB := Aside0.mk (Below.refl w.heap.size w)
 have H : (if a1_0 = 5 then (if 0 < (l1_8.length : Int) then ((eval_asker_ask.f k l0_0 l0_1 ((rd_T27 l1_8 0).f0) ((rd_T27 l1_8 0).f1) ((rd_T27 l1_8 0).f2) ((rd_T27 l1_8 0).f3.f0) ((rd_T27 l1_8 0).f3.f1) ((rd_T27 l1_8 0).f3.f2) ((rd_T27 l1_8 0).f4) ((rd_T27 l1_8 0).f5) ((rd_T27 l1_8 0).f6)).bind fun t510 => ((eval_not.f t510).bind fun t511 => (some t511))) else (none)) else (if a1_0 = 6 then (eval_asker_ask.j0 k (a1_0 == 6) l0_0 l0_1 a1_0 a1_1 a1_2 a1_3 a1_4 a1_5 a1_6 a1_7 l1_8) else (eval_asker_ask.j0 k (a1_0 == 7) l0_0 l0_1 a1_0 a1_1 a1_2 a1_3 a1_4 a1_5 a1_6 a1_7 l1_8))) = some r := h
 clear h
 by_cases c3 : a1_0 = 5
 ·rw [if_pos c3] at H
  have c3b0 : (a1_0 == 5) = true := beq_iff_eq.mpr c3
  have c3b1 : (a1_0 != 5) = false := bne_eq_false_iff_eq.mpr c3
  clear c3
  by_cases c4 : 0 < (l1_8.length : Int)
  ·rw [if_pos c4] at H
   have c4b0 : decide (0 < (l1_8.length : Int)) = true := decide_eq_true c4
   have c4b1 : decide (0 < l1_8.length) = true := decide_eq_true (by omega)
   clear c4
   replace H := Option.bind_eq_some_iff.mp H
   obtain ⟨t510, A50, H⟩ := H
   replace H : ((eval_not.f t510).bind fun t511 => (some t511)) = some r := H
   have A5 := Aside0.mk A50
   clear A50
   replace H := Option.bind_eq_some_iff.mp H
   obtain ⟨t511, A60, H⟩ := H
   replace H : (some t511) = some r := H
   have A6 := Aside0.mk A60
   clear A60
   obtain rfl := Option.some.inj H
   go_enter Try.func41, Try.ntmps41
   try go_wp2_with (first | (refine bx_ (N := 2) (cs := #[.slice A0_0 l0_0.length c0_0, .slice A0_1 l0_1.length c0_1]) (t := 81) ?_; intro gb507 hg w7 hbox hb; have BK507 := Aside0.mk (hbox); have GW507 := ge_ HB hg; have GE507 := ge_ HB hg; replace HB := bs_ HB hb; clear hb hbox hg) | (refine bx_ (N := 3) (cs := #[.int .i64 a1_0, .string a1_1, .int .i64 a1_2, .bool a1_3, .int .i64 a1_4, .string a1_5, .int .i64 a1_6, .string a1_7, .slice A1_8 l1_8.length c1_8]) (t := 27) ?_; intro gb508 hg w8 hbox hb; have BK508 := Aside0.mk (hbox); have GW508 := ge_ HB hg; have GE508 := ge_ HB hg; have NB507_508 := lt_ BK507 hg; have NB508_507 := gt_ BK507 hg; replace BK507 := bk_ BK507 hb; replace HB := bs_ HB hb; clear hb hbox hg; have hnb9 := NB508_507.out; have hnc9 := NB507_508.out; obtain ⟨C10_0, C10_1, C10_2, C10_3, C10_4, C10_5, C10_6, C10_7, C10_8⟩ := zc9_ BK508.out; obtain ⟨F10_0, F10_1, F10_2, F10_3, F10_4, F10_5, F10_6, F10_7, F10_8⟩ := zf9_ BK508.out))
   replace BK507 := Aside0.mk (blk_drew BK507.out); replace BK508 := Aside0.mk (blk_drew BK508.out); replace HB := Aside0.mk (below_drew1 HB.out)
   have p509 : 0 ≤ (0 : Int) := (by omega)
   have q509 : 0 < (l1_8.length : Int) := dt_
   obtain ⟨ad509, A509_8, c509_8, e509, hx509_0, hx509_1, hx509_2, hx509_3, hx509_4, hx509_5, hx509_6, hx509_7, hx509_8, hl509_8, hi509_8⟩ := at_T27 HR1_8.out 0 p509 q509
   have hw509_8 := hx509_8
   (try rw [show ((0 : Int)).toNat = 0 from rfl] at hw509_8)
   (try rw [show 0 * 9 = 0 from rfl] at hw509_8)
   (try rw [Addr.add_zero'] at hw509_8)
   have hw509_7 := hx509_7
   (try rw [show ((0 : Int)).toNat = 0 from rfl] at hw509_7)
   (try rw [show 0 * 9 = 0 from rfl] at hw509_7)
   (try rw [Addr.add_zero'] at hw509_7)
   have hw509_6 := hx509_6
   (try rw [show ((0 : Int)).toNat = 0 from rfl] at hw509_6)
   (try rw [show 0 * 9 = 0 from rfl] at hw509_6)
   (try rw [Addr.add_zero'] at hw509_6)
   have hw509_5 := hx509_5
   (try rw [show ((0 : Int)).toNat = 0 from rfl] at hw509_5)
   (try rw [show 0 * 9 = 0 from rfl] at hw509_5)
   (try rw [Addr.add_zero'] at hw509_5)
   have hw509_4 := hx509_4
   (try rw [show ((0 : Int)).toNat = 0 from rfl] at hw509_4)
   (try rw [show 0 * 9 = 0 from rfl] at hw509_4)
   (try rw [Addr.add_zero'] at hw509_4)
   have hw509_3 := hx509_3
   (try rw [show ((0 : Int)).toNat = 0 from rfl] at hw509_3)
   (try rw [show 0 * 9 = 0 from rfl] at hw509_3)
   (try rw [Addr.add_zero'] at hw509_3)
   have hw509_2 := hx509_2
   (try rw [show ((0 : Int)).toNat = 0 from rfl] at hw509_2)
   (try rw [show 0 * 9 = 0 from rfl] at hw509_2)
   (try rw [Addr.add_zero'] at hw509_2)
   have hw509_1 := hx509_1
   (try rw [show ((0 : Int)).toNat = 0 from rfl] at hw509_1)
   (try rw [show 0 * 9 = 0 from rfl] at hw509_1)
   (try rw [Addr.add_zero'] at hw509_1)
   have hw509_0 := hx509_0
   (try rw [show ((0 : Int)).toNat = 0 from rfl] at hw509_0)
   (try rw [show 0 * 9 = 0 from rfl] at hw509_0)
   (try rw [Addr.add_zero'] at hw509_0)
   cases e509
   have qi509 : (0 < l1_8.length) = True := eq_true (by omega)
   (try rw [show ((0 : Int)).toNat = 0 from rfl] at hx509_0)
   (try rw [show 0 * 9 = 0 from rfl] at hx509_0)
   (try rw [Addr.add_zero'] at hx509_0)
   (try rw [show ((0 : Int)).toNat = 0 from rfl] at hx509_1)
   (try rw [show 0 * 9 = 0 from rfl] at hx509_1)
   (try rw [Addr.add_zero'] at hx509_1)
   (try rw [show ((0 : Int)).toNat = 0 from rfl] at hx509_2)
   (try rw [show 0 * 9 = 0 from rfl] at hx509_2)
   (try rw [Addr.add_zero'] at hx509_2)
   (try rw [show ((0 : Int)).toNat = 0 from rfl] at hx509_3)
   (try rw [show 0 * 9 = 0 from rfl] at hx509_3)
   (try rw [Addr.add_zero'] at hx509_3)
   (try rw [show ((0 : Int)).toNat = 0 from rfl] at hx509_4)
   (try rw [show 0 * 9 = 0 from rfl] at hx509_4)
   (try rw [Addr.add_zero'] at hx509_4)
   (try rw [show ((0 : Int)).toNat = 0 from rfl] at hx509_5)
   (try rw [show 0 * 9 = 0 from rfl] at hx509_5)
   (try rw [Addr.add_zero'] at hx509_5)
   (try rw [show ((0 : Int)).toNat = 0 from rfl] at hx509_6)
   (try rw [show 0 * 9 = 0 from rfl] at hx509_6)
   (try rw [Addr.add_zero'] at hx509_6)
   (try rw [show ((0 : Int)).toNat = 0 from rfl] at hx509_7)
   (try rw [show 0 * 9 = 0 from rfl] at hx509_7)
   (try rw [Addr.add_zero'] at hx509_7)
   (try rw [show ((0 : Int)).toNat = 0 from rfl] at hx509_8)
   (try rw [show 0 * 9 = 0 from rfl] at hx509_8)
   (try rw [Addr.add_zero'] at hx509_8)
   replace hx509_0 := hc_ HB hx509_0
   replace hx509_1 := hc_ HB hx509_1
   replace hx509_2 := hc_ HB hx509_2
   replace hx509_3 := hc_ HB hx509_3
   replace hx509_4 := hc_ HB hx509_4
   replace hx509_5 := hc_ HB hx509_5
   replace hx509_6 := hc_ HB hx509_6
   replace hx509_7 := hc_ HB hx509_7
   replace hx509_8 := hc_ HB hx509_8
   have HR509_8 := Aside0.mk hi509_8
   have HC509_8 := Aside0.mk hl509_8
   clear hi509_8 hl509_8
   replace p509 := eq_true p509
   replace q509 := eq_true q509
   refine start_ (n := 8) (S := fun w' => w'.cell? ⟨gb507, 0, none⟩ = some (.slice A0_0 l0_0.length c0_0) ∧ w'.cell? ⟨gb507, 1, none⟩ = some (.slice A0_1 l0_1.length c0_1) ∧ w'.cell? ⟨gb508, 0, none⟩ = some (.int .i64 a1_0) ∧ w'.cell? ⟨gb508, 1, none⟩ = some (.string a1_1) ∧ w'.cell? ⟨gb508, 2, none⟩ = some (.int .i64 a1_2) ∧ w'.cell? ⟨gb508, 3, none⟩ = some (.bool a1_3) ∧ w'.cell? ⟨gb508, 4, none⟩ = some (.int .i64 a1_4) ∧ w'.cell? ⟨gb508, 5, none⟩ = some (.string a1_5) ∧ w'.cell? ⟨gb508, 6, none⟩ = some (.int .i64 a1_6) ∧ w'.cell? ⟨gb508, 7, none⟩ = some (.string a1_7) ∧ w'.cell? ⟨gb508, 8, none⟩ = some (.slice (some ad509) l1_8.length c1_8) ∧ w'.cell? ad509 = some (.int .i64 ((rd_T27 l1_8 0).f0)) ∧ w'.cell? ⟨ad509.block, ad509.off + 1, none⟩ = some (.string ((rd_T27 l1_8 0).f1)) ∧ w'.cell? ⟨ad509.block, ad509.off + 2, none⟩ = some (.int .i64 ((rd_T27 l1_8 0).f2)) ∧ w'.cell? ⟨ad509.block, ad509.off + 3, none⟩ = some (.bool ((rd_T27 l1_8 0).f3.f0)) ∧ w'.cell? ⟨ad509.block, ad509.off + 4, none⟩ = some (.int .i64 ((rd_T27 l1_8 0).f3.f1)) ∧ w'.cell? ⟨ad509.block, ad509.off + 5, none⟩ = some (.string ((rd_T27 l1_8 0).f3.f2)) ∧ w'.cell? ⟨ad509.block, ad509.off + 6, none⟩ = some (.int .i64 ((rd_T27 l1_8 0).f4)) ∧ w'.cell? ⟨ad509.block, ad509.off + 7, none⟩ = some (.string ((rd_T27 l1_8 0).f5)) ∧ w'.cell? ⟨ad509.block, ad509.off + 8, none⟩ = some (.slice A509_8 ((rd_T27 l1_8 0).f6).length c509_8)) (ds := []) #[false, false, false, false, false, false, false, false] (by kernel_rfl) rfl rfl ⟨(blk_cell BK507.out 0).trans rfl, (blk_cell BK507.out 1).trans rfl, (blk_cell BK508.out 0).trans rfl, (blk_cell BK508.out 1).trans rfl, (blk_cell BK508.out 2).trans rfl, (blk_cell BK508.out 3).trans rfl, (blk_cell BK508.out 4).trans rfl, (blk_cell BK508.out 5).trans rfl, (blk_cell BK508.out 6).trans rfl, (blk_cell BK508.out 7).trans rfl, (blk_cell BK508.out 8).trans rfl, ((HB.out.cell (World.block_lt_of_cell? w _ hw509_0)).trans hw509_0), ((HB.out.cell (World.block_lt_of_cell? w _ hw509_1)).trans hw509_1), ((HB.out.cell (World.block_lt_of_cell? w _ hw509_2)).trans hw509_2), ((HB.out.cell (World.block_lt_of_cell? w _ hw509_3)).trans hw509_3), ((HB.out.cell (World.block_lt_of_cell? w _ hw509_4)).trans hw509_4), ((HB.out.cell (World.block_lt_of_cell? w _ hw509_5)).trans hw509_5), ((HB.out.cell (World.block_lt_of_cell? w _ hw509_6)).trans hw509_6), ((HB.out.cell (World.block_lt_of_cell? w _ hw509_7)).trans hw509_7), ((HB.out.cell (World.block_lt_of_cell? w _ hw509_8)).trans hw509_8)⟩ (fun hHeld => ?_); refine with_tabW eval_asker_ask.tab3 eval_asker_ask.bits3 (fun HT_ HW_ => ?_)
   generalize w8.drew = w11 at BK507 BK508 HB HR509_8 hx509_0 hx509_1 hx509_2 hx509_3 hx509_4 hx509_5 hx509_6 hx509_7 hx509_8 hHeld ⊢
   refine pu_ 1 (some 15) (bl_ 8 2) ?_
   refine ta_ 0 (some 14) (bl_ 8 3) hHeld ?_
   refine ta_ 2 (some 16) (bl_ 8 7) hHeld ?_
   refine pu_ 3 (some 17) (bl_ 8 15) ?_
   refine ta_ 4 (some 18) (bl_ 8 31) hHeld ?_
   refine one_ (i := 5) (N := some 19) #[true, true, true, true, true, true, false, false] rfl rfl (one_of HT_.out (by kernel_rfl)) (by decide) (fun K hK => ?_)
   refine gs_ Try.func41 #[.agg #[.slice A0_0 l0_0.length c0_0, .slice A0_1 l0_1.length c0_1], .agg #[.int .i64 ((rd_T27 l1_8 0).f0), .string ((rd_T27 l1_8 0).f1), .int .i64 ((rd_T27 l1_8 0).f2), .bool ((rd_T27 l1_8 0).f3.f0), .int .i64 ((rd_T27 l1_8 0).f3.f1), .string ((rd_T27 l1_8 0).f3.f2), .int .i64 ((rd_T27 l1_8 0).f4), .string ((rd_T27 l1_8 0).f5), .slice A509_8 ((rd_T27 l1_8 0).f6).length c509_8]] ?_
   with_reducible refine (ih k (by omega) _ _ l0_0 _ _ l0_1 ((rd_T27 l1_8 0).f0) ((rd_T27 l1_8 0).f1) ((rd_T27 l1_8 0).f2) ((rd_T27 l1_8 0).f3.f0) ((rd_T27 l1_8 0).f3.f1) ((rd_T27 l1_8 0).f3.f2) ((rd_T27 l1_8 0).f4) ((rd_T27 l1_8 0).f5) _ _ ((rd_T27 l1_8 0).f6) t510 _ ?side1 ?side2 ?side3 ?side4 ?side5 ?side6 A5.out).mono ?_
   (case side1 => repeat (first | exact (Kd.C_below HR0_0.out HB.out) | (with_reducible refine Kd.C_alloc ?_ _) | (with_reducible refine Kd.C_drewN ?_ _) | (with_reducible refine Kd.C_drew ?_)))
   (case side2 => exact HC0_0.out)
   (case side3 => repeat (first | exact (Kd.C_below HR0_1.out HB.out) | (with_reducible refine Kd.C_alloc ?_ _) | (with_reducible refine Kd.C_drewN ?_ _) | (with_reducible refine Kd.C_drew ?_)))
   (case side4 => exact HC0_1.out)
   (case side5 => repeat (first | exact (Kd.C_below HR509_8.out HB.out) | (with_reducible refine Kd.C_alloc ?_ _) | (with_reducible refine Kd.C_drewN ?_ _) | (with_reducible refine Kd.C_drew ?_)))
   (case side6 => exact HC509_8.out)
   rintro e w12 ⟨rfl, hb⟩
   refine ⟨_, rfl, ?_⟩
   replace BK507 := bk_ BK507 hb; replace BK508 := bk_ BK508 hb; replace HB := bs_ HB hb
   (try clear hb)
   (try clear hb2)
   (try clear hk)
   (try clear hi)
   refine hK.out _ _ ⟨(blk_cell BK507.out 0).trans rfl, (blk_cell BK507.out 1).trans rfl, (blk_cell BK508.out 0).trans rfl, (blk_cell BK508.out 1).trans rfl, (blk_cell BK508.out 2).trans rfl, (blk_cell BK508.out 3).trans rfl, (blk_cell BK508.out 4).trans rfl, (blk_cell BK508.out 5).trans rfl, (blk_cell BK508.out 6).trans rfl, (blk_cell BK508.out 7).trans rfl, (blk_cell BK508.out 8).trans rfl, ((HB.out.cell (World.block_lt_of_cell? w _ hw509_0)).trans hw509_0), ((HB.out.cell (World.block_lt_of_cell? w _ hw509_1)).trans hw509_1), ((HB.out.cell (World.block_lt_of_cell? w _ hw509_2)).trans hw509_2), ((HB.out.cell (World.block_lt_of_cell? w _ hw509_3)).trans hw509_3), ((HB.out.cell (World.block_lt_of_cell? w _ hw509_4)).trans hw509_4), ((HB.out.cell (World.block_lt_of_cell? w _ hw509_5)).trans hw509_5), ((HB.out.cell (World.block_lt_of_cell? w _ hw509_6)).trans hw509_6), ((HB.out.cell (World.block_lt_of_cell? w _ hw509_7)).trans hw509_7), ((HB.out.cell (World.block_lt_of_cell? w _ hw509_8)).trans hw509_8)⟩ (fun hHeld => ?_)
   clear hK K
   refine norm_ (a' := ?_) ?_ ?_
   rotate_left
   ·show Act.put _ (some 19) _ = _
    simp only [Act.put, List.setIfInBounds_toArray, List.set_cons_zero, List.set_cons_succ, i64_w, i32_w]
    rfl
   refine one_ (i := 6) (N := some 20) #[true, true, true, true, true, true, true, false] rfl rfl (one_of HT_.out (by kernel_rfl)) (by decide) (fun K hK => ?_)
   refine gs_ Try.func60 #[.int .i64 t510] ?_
   with_reducible refine (eval_not.calls t510 t511 _ A6.out).mono ?_
   rintro e w' ⟨rfl, ⟨nd, rfl⟩⟩
   refine ⟨_, rfl, ?_⟩
   refine hK.out _ _ ⟨(blk_cell BK507.out 0).trans rfl, (blk_cell BK507.out 1).trans rfl, (blk_cell BK508.out 0).trans rfl, (blk_cell BK508.out 1).trans rfl, (blk_cell BK508.out 2).trans rfl, (blk_cell BK508.out 3).trans rfl, (blk_cell BK508.out 4).trans rfl, (blk_cell BK508.out 5).trans rfl, (blk_cell BK508.out 6).trans rfl, (blk_cell BK508.out 7).trans rfl, (blk_cell BK508.out 8).trans rfl, ((HB.out.cell (World.block_lt_of_cell? w _ hw509_0)).trans hw509_0), ((HB.out.cell (World.block_lt_of_cell? w _ hw509_1)).trans hw509_1), ((HB.out.cell (World.block_lt_of_cell? w _ hw509_2)).trans hw509_2), ((HB.out.cell (World.block_lt_of_cell? w _ hw509_3)).trans hw509_3), ((HB.out.cell (World.block_lt_of_cell? w _ hw509_4)).trans hw509_4), ((HB.out.cell (World.block_lt_of_cell? w _ hw509_5)).trans hw509_5), ((HB.out.cell (World.block_lt_of_cell? w _ hw509_6)).trans hw509_6), ((HB.out.cell (World.block_lt_of_cell? w _ hw509_7)).trans hw509_7), ((HB.out.cell (World.block_lt_of_cell? w _ hw509_8)).trans hw509_8)⟩ (fun hHeld => ?_)
   clear hK K
   refine norm_ (a' := ?_) ?_ ?_
   rotate_left
   ·show Act.put _ (some 20) _ = _
    simp only [Act.put, List.setIfInBounds_toArray, List.set_cons_zero, List.set_cons_succ, i64_w, i32_w]
    rfl
   refine pu_ 7 (some 4) (bl_ 8 255) ?_
   refine done_ (done_of HT_.out (by kernel_rfl)) ?_
   try go_wp2
   go_ret
   exact en_ HB
  ·rw [if_neg c4] at H
   exact absurd H (by simp)
 ·rw [if_neg c3] at H
  have c3b0 : (a1_0 == 5) = false := beq_eq_false_iff_ne.mpr c3
  have c3b1 : (a1_0 != 5) = true := bne_iff_ne.mpr c3
  have HC13 := Aside0.mk H
  clear H
  go_enter Try.func41, Try.ntmps41
  go_upto_if 21 with (first | (refine bx_ (N := 2) (cs := #[.slice A0_0 l0_0.length c0_0, .slice A0_1 l0_1.length c0_1]) (t := 81) ?_; intro gb507 hg w14 hbox hb; have BK507 := Aside0.mk (hbox); have GW507 := ge_ HB hg; have GE507 := ge_ HB hg; replace HB := bs_ HB hb; clear hb hbox hg) | (refine bx_ (N := 3) (cs := #[.int .i64 a1_0, .string a1_1, .int .i64 a1_2, .bool a1_3, .int .i64 a1_4, .string a1_5, .int .i64 a1_6, .string a1_7, .slice A1_8 l1_8.length c1_8]) (t := 27) ?_; intro gb508 hg w15 hbox hb; have BK508 := Aside0.mk (hbox); have GW508 := ge_ HB hg; have GE508 := ge_ HB hg; have NB507_508 := lt_ BK507 hg; have NB508_507 := gt_ BK507 hg; replace BK507 := bk_ BK507 hb; replace HB := bs_ HB hb; clear hb hbox hg; have hnb16 := NB508_507.out; have hnc16 := NB507_508.out; obtain ⟨C17_0, C17_1, C17_2, C17_3, C17_4, C17_5, C17_6, C17_7, C17_8⟩ := zc9_ BK508.out; obtain ⟨F17_0, F17_1, F17_2, F17_3, F17_4, F17_5, F17_6, F17_7, F17_8⟩ := zf9_ BK508.out))
  (try simp only [Act.put, List.setIfInBounds_toArray, List.set_cons_zero, List.set_cons_succ])
  go_cut [21] (fun v21 wc => ∃ (kq : Nat) (x21_12 : Bool), v21 = .bool x21_12 ∧ Aside0 (eval_asker_ask.j0 kq x21_12 l0_0 l0_1 a1_0 a1_1 a1_2 a1_3 a1_4 a1_5 a1_6 a1_7 l1_8 = some r) ∧ Aside0 (kq ≤ k) ∧ Aside0 (wc.heap[gb507]? = some (.cells #[(.slice A0_0 l0_0.length c0_0), (.slice A0_1 l0_1.length c0_1)] 81 (0, 0))) ∧ Aside0 (wc.heap[gb508]? = some (.cells #[.int .i64 a1_0, .string a1_1, .int .i64 a1_2, .bool a1_3, .int .i64 a1_4, .string a1_5, .int .i64 a1_6, .string a1_7, (.slice A1_8 l1_8.length c1_8)] 27 (0, 0))) ∧ Aside0 (Below w.heap.size w wc))
  case first =>
   have H := HC13.out
   clear HC13
   by_cases c18 : a1_0 = 6
   rotate_left
   focus
    rw [if_neg c18] at H
    have c18b0 : (a1_0 == 6) = false := beq_eq_false_iff_ne.mpr c18
    have c18b1 : (a1_0 != 6) = true := bne_iff_ne.mpr c18
   rotate_right
   focus
    rw [if_pos c18] at H
    have c18b0 : (a1_0 == 6) = true := beq_iff_eq.mpr c18
    have c18b1 : (a1_0 != 6) = false := bne_eq_false_iff_eq.mpr c18
    clear c18
   all_goals
    (first | rw [c18b0] | (simp only [i64_w, i32_w]; rw [c18b0]) | skip)
    have H' := Aside0.mk H
    clear H
    go_wp2
    go_meet
    case rel => exact ⟨_, _, (by first | rfl | (simp; done) | (simp [*]; done)), H', ⟨by first | omega | exact Nat.le_refl _⟩, ⟨by (with_reducible repeat (first | refine blk_drewN ?_ _ | refine blk_drew ?_ | refine blk_alloc ?_ _)); exact BK507.out⟩, ⟨by (with_reducible repeat (first | refine blk_drewN ?_ _ | refine blk_drew ?_ | refine blk_alloc ?_ _)); exact BK508.out⟩, ⟨by repeat (first | (with_reducible first | exact HB.out | apply below_alloc | apply pw_below_drewN | apply below_drew1 | refine below_set ?_ GE507.out | refine below_set ?_ GE508.out) | exact HB.out)⟩⟩
  case rest =>
   clear HC13
   try clear c1
   try clear p2
   try clear c3
   try clear c3b0
   try clear c3b1
   try clear c4
   try clear c4b0
   try clear c4b1
   try clear c5
   try clear p5
   try clear q5
   try clear hx5
   try clear qi5
   try clear c6
   try clear c9
   try clear c16
   try clear c18
   try clear c18b0
   try clear c18b1
   try clear C10_0 C10_1 C10_2 C10_3 C10_4 C10_5 C10_6 C10_7 C10_8
   try clear C17_0 C17_1 C17_2 C17_3 C17_4 C17_5 C17_6 C17_7 C17_8
   try clear F10_0 F10_1 F10_2 F10_3 F10_4 F10_5 F10_6 F10_7 F10_8
   try clear F17_0 F17_1 F17_2 F17_3 F17_4 F17_5 F17_6 F17_7 F17_8
   try clear hx509_0
   try clear hx509_1
   try clear hx509_2
   try clear hx509_3
   try clear hx509_4
   try clear hx509_5
   try clear hx509_6
   try clear hx509_7
   try clear hx509_8
   try clear p509
   try clear q509
   obtain ⟨kq, x21_12, rfl, HA, HJ12, BK507, BK508, HB⟩ := hcut
   cases kq with
   | zero => exact absurd HA.out (by simp [eval_asker_ask.j0])
   | succ kj12 =>
    have H := HA.out
    clear HA
    simp only [eval_asker_ask.j0] at H
    by_cases c19 : x21_12 = true
    ·subst c19
     have H1 : ((eval_truth.f (a1_0 == 7)).bind fun t512 => ((eval_not.f t512).bind fun t513 => (eval_asker_ask.l0 kj12 t512 t513 l1_8 (l1_8.length : Int) 0 l0_0 l0_1))) = some r := by rw [if_pos rfl] at H; exact H
     clear H
     have H := H1
     clear H1
     replace H := Option.bind_eq_some_iff.mp H
     obtain ⟨t512, A200, H⟩ := H
     replace H : ((eval_not.f t512).bind fun t513 => (eval_asker_ask.l0 kj12 t512 t513 l1_8 (l1_8.length : Int) 0 l0_0 l0_1)) = some r := H
     have A20 := Aside0.mk A200
     clear A200
     replace H := Option.bind_eq_some_iff.mp H
     obtain ⟨t513, A210, H⟩ := H
     replace H : (eval_asker_ask.l0 kj12 t512 t513 l1_8 (l1_8.length : Int) 0 l0_0 l0_1) = some r := H
     have A21 := Aside0.mk A210
     clear A210
     have H' := Aside0.mk H
     clear H
     have hnb22 := NB508_507.out
     have hnc22 := NB507_508.out
     obtain ⟨C23_0, C23_1, C23_2, C23_3, C23_4, C23_5, C23_6, C23_7, C23_8⟩ := cz9_ BK508.out
     obtain ⟨F23_0, F23_1, F23_2, F23_3, F23_4, F23_5, F23_6, F23_7, F23_8⟩ := fz9_ BK508.out
     go_wp2_with (first | ((with_reducible refine gate_callee (f := 61) rfl ?_); refine gl_ (some 27) rfl Try.func61 #[.bool (a1_0 == 7)] ?_; (with_reducible refine (eval_truth.calls (a1_0 == 7) t512 _ A20.out).mono ?_); rintro e w' ⟨rfl, ⟨nd, rfl⟩⟩; refine ⟨_, rfl, ?_⟩) | ((with_reducible refine gate_callee (f := 60) rfl ?_); refine gl_ (some 29) rfl Try.func60 #[.int .i64 t512] ?_; (with_reducible refine (eval_not.calls t512 t513 _ A21.out).mono ?_); rintro e w' ⟨rfl, ⟨nd, rfl⟩⟩; refine ⟨_, rfl, ?_⟩))
     go_loopg [6, 33] kj12 (fun kq v6 v33 w' => ∃ (x6_2 : Int) (x33_2 : Int), v6 = .int .i64 x6_2 ∧ v33 = .int .i64 x33_2 ∧ Aside0 (eval_asker_ask.l0 kq t512 x6_2 l1_8 (l1_8.length : Int) x33_2 l0_0 l0_1 = some r) ∧ Aside0 (kq ≤ kj12) ∧ Aside0 (w'.heap[gb507]? = some (.cells #[(.slice A0_0 l0_0.length c0_0), (.slice A0_1 l0_1.length c0_1)] 81 (0, 0))) ∧ Aside0 (w'.heap[gb508]? = some (.cells #[.int .i64 a1_0, .string a1_1, .int .i64 a1_2, .bool a1_3, .int .i64 a1_4, .string a1_5, .int .i64 a1_6, .string a1_7, (.slice A1_8 l1_8.length c1_8)] 27 (0, 0))) ∧ Aside0 (Below w.heap.size w w'))
     case atStart => exact ⟨_, _, (by first | rfl | (simp; done) | (simp [*]; done)), (by first | rfl | (simp; done) | (simp [*]; done)), H', ⟨Nat.le_refl _⟩, ⟨by (with_reducible repeat (first | refine blk_drewN ?_ _ | refine blk_drew ?_ | refine blk_alloc ?_ _)); exact BK507.out⟩, ⟨by (with_reducible repeat (first | refine blk_drewN ?_ _ | refine blk_drew ?_ | refine blk_alloc ?_ _)); exact BK508.out⟩, ⟨by repeat (first | (with_reducible first | exact HB.out | apply below_alloc | apply pw_below_drewN | apply below_drew1 | refine below_set ?_ GE507.out | refine below_set ?_ GE508.out) | exact HB.out)⟩⟩
     case round =>
      clear H'
      try clear c1
      try clear c2
      try clear p2
      try clear c3
      try clear c3b0
      try clear c3b1
      try clear c4
      try clear c4b0
      try clear c4b1
      try clear c5
      try clear p5
      try clear q5
      try clear hx5
      try clear qi5
      try clear c6
      try clear c9
      try clear c16
      try clear c18
      try clear c18b0
      try clear c18b1
      try clear c19
      try clear c22
      try clear C10_0 C10_1 C10_2 C10_3 C10_4 C10_5 C10_6 C10_7 C10_8
      try clear C17_0 C17_1 C17_2 C17_3 C17_4 C17_5 C17_6 C17_7 C17_8
      try clear C23_0 C23_1 C23_2 C23_3 C23_4 C23_5 C23_6 C23_7 C23_8
      try clear F10_0 F10_1 F10_2 F10_3 F10_4 F10_5 F10_6 F10_7 F10_8
      try clear F17_0 F17_1 F17_2 F17_3 F17_4 F17_5 F17_6 F17_7 F17_8
      try clear F23_0 F23_1 F23_2 F23_3 F23_4 F23_5 F23_6 F23_7 F23_8
      try clear hx509_0
      try clear hx509_1
      try clear hx509_2
      try clear hx509_3
      try clear hx509_4
      try clear hx509_5
      try clear hx509_6
      try clear hx509_7
      try clear hx509_8
      try clear p2
      try clear p5
      try clear p509
      try clear q5
      try clear q509
      obtain ⟨x6_2, x33_2, rfl, rfl, HA, HK2, BK507, BK508, HB⟩ := hrel
      cases gk with
      | zero => exact absurd HA.out (by simp [eval_asker_ask.l0])
      | succ k2 =>
       have H := HA.out
       clear HA
       simp only [eval_asker_ask.l0] at H
       by_cases c24 : x33_2 < (l1_8.length : Int)
       ·rw [if_pos c24] at H
        have c24b0 : decide (x33_2 < (l1_8.length : Int)) = true := decide_eq_true c24
        clear c24
        by_cases c25 : 0 ≤ x33_2
        ·rw [if_pos c25] at H
         have c25b0 : decide (0 ≤ x33_2) = true := decide_eq_true c25
         clear c25
         by_cases c26 : x33_2 < (l1_8.length : Int)
         ·rw [if_pos c26] at H
          have c26b0 : decide (x33_2 < (l1_8.length : Int)) = true := decide_eq_true c26
          clear c26
          replace H := Option.bind_eq_some_iff.mp H
          obtain ⟨t516, A270, H⟩ := H
          replace H : (if t516 = t512 then (some t512) else (if t516 = 2 then (eval_asker_ask.l0 k2 t512 2 l1_8 (l1_8.length : Int) (wrap64 (x33_2 + 1)) l0_0 l0_1) else (eval_asker_ask.l0 k2 t512 x6_2 l1_8 (l1_8.length : Int) (wrap64 (x33_2 + 1)) l0_0 l0_1))) = some r := H
          have A27 := Aside0.mk A270
          clear A270
          by_cases c28 : t516 = t512
          ·rw [if_pos c28] at H
           have c28b0 : (t516 == t512) = true := beq_iff_eq.mpr c28
           have c28b1 : (t516 != t512) = false := bne_eq_false_iff_eq.mpr c28
           clear c28
           obtain rfl := Option.some.inj H
           have p514 : 0 ≤ (x33_2 : Int) := dt_
           have q514 : x33_2 < (l1_8.length : Int) := dt_
           obtain ⟨ad514, A514_8, c514_8, e514, hx514_0, hx514_1, hx514_2, hx514_3, hx514_4, hx514_5, hx514_6, hx514_7, hx514_8, hl514_8, hi514_8⟩ := at_T27 HR1_8.out x33_2 p514 q514
           cases e514
           replace hx514_0 := hc_ HB hx514_0
           replace hx514_1 := hc_ HB hx514_1
           replace hx514_2 := hc_ HB hx514_2
           replace hx514_3 := hc_ HB hx514_3
           replace hx514_4 := hc_ HB hx514_4
           replace hx514_5 := hc_ HB hx514_5
           replace hx514_6 := hc_ HB hx514_6
           replace hx514_7 := hc_ HB hx514_7
           replace hx514_8 := hc_ HB hx514_8
           have HR514_8 := Aside0.mk hi514_8
           have HC514_8 := Aside0.mk hl514_8
           clear hi514_8 hl514_8
           replace p514 := eq_true p514
           replace q514 := eq_true q514
           go_wp2_with (first | (refine bx_ (N := 8) (cs := #[.int .i64 0, .string (⟨#[]⟩ : ByteArray), .int .i64 0, .bool false, .int .i64 0, .string (⟨#[]⟩ : ByteArray), .int .i64 0, .string (⟨#[]⟩ : ByteArray), .slice none 0 0]) (t := 27) ?_; intro gb515 hg w29 hbox hb; have BK515 := Aside0.mk (hbox); have GW515 := ge_ HB hg; have GE515 := ge_ HB hg; have NB507_515 := lt_ BK507 hg; have NB515_507 := gt_ BK507 hg; have NB508_515 := lt_ BK508 hg; have NB515_508 := gt_ BK508 hg; replace BK507 := bk_ BK507 hb; replace BK508 := bk_ BK508 hb; replace HB := bs_ HB hb; clear hb hbox hg; have hnb30 := NB515_507.out; have hnc30 := NB507_515.out; have hnb31 := NB515_508.out; have hnc31 := NB508_515.out; obtain ⟨C32_0, C32_1, C32_2, C32_3, C32_4, C32_5, C32_6, C32_7, C32_8⟩ := zc9_ BK515.out; obtain ⟨F32_0, F32_1, F32_2, F32_3, F32_4, F32_5, F32_6, F32_7, F32_8⟩ := zf9_ BK515.out; have hnb33 := NB507_508.out; have hnc33 := NB508_507.out; obtain ⟨C34_0, C34_1⟩ := zc2_ BK507.out; obtain ⟨F34_0, F34_1⟩ := zf2_ BK507.out) | ((with_reducible refine gate_callee (f := 41) rfl ?_); refine gl_ (some 39) rfl Try.func41 #[.agg #[.slice A0_0 l0_0.length c0_0, .slice A0_1 l0_1.length c0_1], .agg #[.int .i64 ((rd_T27 l1_8 x33_2).f0), .string ((rd_T27 l1_8 x33_2).f1), .int .i64 ((rd_T27 l1_8 x33_2).f2), .bool ((rd_T27 l1_8 x33_2).f3.f0), .int .i64 ((rd_T27 l1_8 x33_2).f3.f1), .string ((rd_T27 l1_8 x33_2).f3.f2), .int .i64 ((rd_T27 l1_8 x33_2).f4), .string ((rd_T27 l1_8 x33_2).f5), .slice A514_8 ((rd_T27 l1_8 x33_2).f6).length c514_8]] ?_; (with_reducible refine (ih k2 (by have := HJ12.out; have := HK2.out; omega) _ _ l0_0 _ _ l0_1 ((rd_T27 l1_8 x33_2).f0) ((rd_T27 l1_8 x33_2).f1) ((rd_T27 l1_8 x33_2).f2) ((rd_T27 l1_8 x33_2).f3.f0) ((rd_T27 l1_8 x33_2).f3.f1) ((rd_T27 l1_8 x33_2).f3.f2) ((rd_T27 l1_8 x33_2).f4) ((rd_T27 l1_8 x33_2).f5) _ _ ((rd_T27 l1_8 x33_2).f6) t516 _ ?side1 ?side2 ?side3 ?side4 ?side5 ?side6 A27.out).mono ?_); (case side1 => exact Kd.C_below HR0_0.out (by repeat (first | (with_reducible first | exact HB.out | apply below_alloc | apply pw_below_drewN | apply below_drew1 | refine below_set ?_ GE507.out | refine below_set ?_ GE508.out | refine below_set ?_ GE515.out) | exact HB.out))); (case side2 => exact HC0_0.out); (case side3 => exact Kd.C_below HR0_1.out (by repeat (first | (with_reducible first | exact HB.out | apply below_alloc | apply pw_below_drewN | apply below_drew1 | refine below_set ?_ GE507.out | refine below_set ?_ GE508.out | refine below_set ?_ GE515.out) | exact HB.out))); (case side4 => exact HC0_1.out); (case side5 => exact Kd.C_below HR514_8.out (by repeat (first | (with_reducible first | exact HB.out | apply below_alloc | apply pw_below_drewN | apply below_drew1 | refine below_set ?_ GE507.out | refine below_set ?_ GE508.out | refine below_set ?_ GE515.out) | exact HB.out))); (case side6 => exact HC514_8.out); rintro e w35 ⟨rfl, hb⟩; refine ⟨_, rfl, ?_⟩; have n0_ := Aside0.mk (blk_below (g := gb507) (o := .cells #[.slice A0_0 l0_0.length c0_0, .slice A0_1 l0_1.length c0_1] 81 (0, 0)) (by (iterate 9 ((with_reducible repeat (first | refine blk_drewN ?_ _ | refine blk_drew ?_ | refine blk_alloc ?_ _)); refine blk_far ?_ NB507_515.out _)); (with_reducible repeat (first | refine blk_drewN ?_ _ | refine blk_drew ?_ | refine blk_alloc ?_ _)); exact BK507.out) hb); have n1_ := Aside0.mk (blk_below (g := gb508) (o := .cells #[.int .i64 a1_0, .string a1_1, .int .i64 a1_2, .bool a1_3, .int .i64 a1_4, .string a1_5, .int .i64 a1_6, .string a1_7, .slice (some ad514) l1_8.length c1_8] 27 (0, 0)) (by (iterate 9 ((with_reducible repeat (first | refine blk_drewN ?_ _ | refine blk_drew ?_ | refine blk_alloc ?_ _)); refine blk_far ?_ NB508_515.out _)); (with_reducible repeat (first | refine blk_drewN ?_ _ | refine blk_drew ?_ | refine blk_alloc ?_ _)); exact BK508.out) hb); have n2_ := Aside0.mk (blk_below (g := gb515) (o := .cells #[.int .i64 ((rd_T27 l1_8 x33_2).f0), .string ((rd_T27 l1_8 x33_2).f1), .int .i64 ((rd_T27 l1_8 x33_2).f2), .bool ((rd_T27 l1_8 x33_2).f3.f0), .int .i64 ((rd_T27 l1_8 x33_2).f3.f1), .string ((rd_T27 l1_8 x33_2).f3.f2), .int .i64 ((rd_T27 l1_8 x33_2).f4), .string ((rd_T27 l1_8 x33_2).f5), .slice A514_8 ((rd_T27 l1_8 x33_2).f6).length c514_8] 27 (0, 0)) (by (with_reducible repeat (first | refine blk_drewN ?_ _ | refine blk_drew ?_ | refine blk_alloc ?_ _)); apply blk_all9_; (with_reducible repeat (first | refine blk_drewN ?_ _ | refine blk_drew ?_ | refine blk_alloc ?_ _)); exact BK515.out) hb); have n3_ := bs_ HB hb; clear BK507; clear BK508; clear BK515; clear HB; have BK507 := n0_; have BK508 := n1_; have BK515 := n2_; have HB := n3_; clear n0_ n1_ n2_ n3_; (try clear hb); (try clear hb2); (try clear hk); (try clear hi)))
           go_ret
           exact en_ HB
          ·rw [if_neg c28] at H
           have c28b0 : (t516 == t512) = false := beq_eq_false_iff_ne.mpr c28
           have c28b1 : (t516 != t512) = true := bne_iff_ne.mpr c28
           by_cases c36 : t516 = 2
           rotate_left
           focus
            rw [if_neg c36] at H
            have c36b0 : (t516 == 2) = false := beq_eq_false_iff_ne.mpr c36
            have c36b1 : (t516 != 2) = true := bne_iff_ne.mpr c36
           rotate_right
           focus
            rw [if_pos c36] at H
            have c36b0 : (t516 == 2) = true := beq_iff_eq.mpr c36
            have c36b1 : (t516 != 2) = false := bne_eq_false_iff_eq.mpr c36
            clear c36
           all_goals
            have H' := Aside0.mk H
            clear H
            have p514 : 0 ≤ (x33_2 : Int) := dt_
            have q514 : x33_2 < (l1_8.length : Int) := dt_
            obtain ⟨ad514, A514_8, c514_8, e514, hx514_0, hx514_1, hx514_2, hx514_3, hx514_4, hx514_5, hx514_6, hx514_7, hx514_8, hl514_8, hi514_8⟩ := at_T27 HR1_8.out x33_2 p514 q514
            cases e514
            replace hx514_0 := hc_ HB hx514_0
            replace hx514_1 := hc_ HB hx514_1
            replace hx514_2 := hc_ HB hx514_2
            replace hx514_3 := hc_ HB hx514_3
            replace hx514_4 := hc_ HB hx514_4
            replace hx514_5 := hc_ HB hx514_5
            replace hx514_6 := hc_ HB hx514_6
            replace hx514_7 := hc_ HB hx514_7
            replace hx514_8 := hc_ HB hx514_8
            have HR514_8 := Aside0.mk hi514_8
            have HC514_8 := Aside0.mk hl514_8
            clear hi514_8 hl514_8
            replace p514 := eq_true p514
            replace q514 := eq_true q514
            go_wp2_with (first | (refine bx_ (N := 8) (cs := #[.int .i64 0, .string (⟨#[]⟩ : ByteArray), .int .i64 0, .bool false, .int .i64 0, .string (⟨#[]⟩ : ByteArray), .int .i64 0, .string (⟨#[]⟩ : ByteArray), .slice none 0 0]) (t := 27) ?_; intro gb515 hg w37 hbox hb; have BK515 := Aside0.mk (hbox); have GW515 := ge_ HB hg; have GE515 := ge_ HB hg; have NB507_515 := lt_ BK507 hg; have NB515_507 := gt_ BK507 hg; have NB508_515 := lt_ BK508 hg; have NB515_508 := gt_ BK508 hg; replace BK507 := bk_ BK507 hb; replace BK508 := bk_ BK508 hb; replace HB := bs_ HB hb; clear hb hbox hg; have hnb38 := NB515_507.out; have hnc38 := NB507_515.out; have hnb39 := NB515_508.out; have hnc39 := NB508_515.out; obtain ⟨C40_0, C40_1, C40_2, C40_3, C40_4, C40_5, C40_6, C40_7, C40_8⟩ := zc9_ BK515.out; obtain ⟨F40_0, F40_1, F40_2, F40_3, F40_4, F40_5, F40_6, F40_7, F40_8⟩ := zf9_ BK515.out; have hnb41 := NB507_508.out; have hnc41 := NB508_507.out; obtain ⟨C42_0, C42_1⟩ := zc2_ BK507.out; obtain ⟨F42_0, F42_1⟩ := zf2_ BK507.out) | ((with_reducible refine gate_callee (f := 41) rfl ?_); refine gl_ (some 39) rfl Try.func41 #[.agg #[.slice A0_0 l0_0.length c0_0, .slice A0_1 l0_1.length c0_1], .agg #[.int .i64 ((rd_T27 l1_8 x33_2).f0), .string ((rd_T27 l1_8 x33_2).f1), .int .i64 ((rd_T27 l1_8 x33_2).f2), .bool ((rd_T27 l1_8 x33_2).f3.f0), .int .i64 ((rd_T27 l1_8 x33_2).f3.f1), .string ((rd_T27 l1_8 x33_2).f3.f2), .int .i64 ((rd_T27 l1_8 x33_2).f4), .string ((rd_T27 l1_8 x33_2).f5), .slice A514_8 ((rd_T27 l1_8 x33_2).f6).length c514_8]] ?_; (with_reducible refine (ih k2 (by have := HJ12.out; have := HK2.out; omega) _ _ l0_0 _ _ l0_1 ((rd_T27 l1_8 x33_2).f0) ((rd_T27 l1_8 x33_2).f1) ((rd_T27 l1_8 x33_2).f2) ((rd_T27 l1_8 x33_2).f3.f0) ((rd_T27 l1_8 x33_2).f3.f1) ((rd_T27 l1_8 x33_2).f3.f2) ((rd_T27 l1_8 x33_2).f4) ((rd_T27 l1_8 x33_2).f5) _ _ ((rd_T27 l1_8 x33_2).f6) t516 _ ?side1 ?side2 ?side3 ?side4 ?side5 ?side6 A27.out).mono ?_); (case side1 => exact Kd.C_below HR0_0.out (by repeat (first | (with_reducible first | exact HB.out | apply below_alloc | apply pw_below_drewN | apply below_drew1 | refine below_set ?_ GE507.out | refine below_set ?_ GE508.out | refine below_set ?_ GE515.out) | exact HB.out))); (case side2 => exact HC0_0.out); (case side3 => exact Kd.C_below HR0_1.out (by repeat (first | (with_reducible first | exact HB.out | apply below_alloc | apply pw_below_drewN | apply below_drew1 | refine below_set ?_ GE507.out | refine below_set ?_ GE508.out | refine below_set ?_ GE515.out) | exact HB.out))); (case side4 => exact HC0_1.out); (case side5 => exact Kd.C_below HR514_8.out (by repeat (first | (with_reducible first | exact HB.out | apply below_alloc | apply pw_below_drewN | apply below_drew1 | refine below_set ?_ GE507.out | refine below_set ?_ GE508.out | refine below_set ?_ GE515.out) | exact HB.out))); (case side6 => exact HC514_8.out); rintro e w43 ⟨rfl, hb⟩; refine ⟨_, rfl, ?_⟩; have n0_ := Aside0.mk (blk_below (g := gb507) (o := .cells #[.slice A0_0 l0_0.length c0_0, .slice A0_1 l0_1.length c0_1] 81 (0, 0)) (by (iterate 9 ((with_reducible repeat (first | refine blk_drewN ?_ _ | refine blk_drew ?_ | refine blk_alloc ?_ _)); refine blk_far ?_ NB507_515.out _)); (with_reducible repeat (first | refine blk_drewN ?_ _ | refine blk_drew ?_ | refine blk_alloc ?_ _)); exact BK507.out) hb); have n1_ := Aside0.mk (blk_below (g := gb508) (o := .cells #[.int .i64 a1_0, .string a1_1, .int .i64 a1_2, .bool a1_3, .int .i64 a1_4, .string a1_5, .int .i64 a1_6, .string a1_7, .slice (some ad514) l1_8.length c1_8] 27 (0, 0)) (by (iterate 9 ((with_reducible repeat (first | refine blk_drewN ?_ _ | refine blk_drew ?_ | refine blk_alloc ?_ _)); refine blk_far ?_ NB508_515.out _)); (with_reducible repeat (first | refine blk_drewN ?_ _ | refine blk_drew ?_ | refine blk_alloc ?_ _)); exact BK508.out) hb); have n2_ := Aside0.mk (blk_below (g := gb515) (o := .cells #[.int .i64 ((rd_T27 l1_8 x33_2).f0), .string ((rd_T27 l1_8 x33_2).f1), .int .i64 ((rd_T27 l1_8 x33_2).f2), .bool ((rd_T27 l1_8 x33_2).f3.f0), .int .i64 ((rd_T27 l1_8 x33_2).f3.f1), .string ((rd_T27 l1_8 x33_2).f3.f2), .int .i64 ((rd_T27 l1_8 x33_2).f4), .string ((rd_T27 l1_8 x33_2).f5), .slice A514_8 ((rd_T27 l1_8 x33_2).f6).length c514_8] 27 (0, 0)) (by (with_reducible repeat (first | refine blk_drewN ?_ _ | refine blk_drew ?_ | refine blk_alloc ?_ _)); apply blk_all9_; (with_reducible repeat (first | refine blk_drewN ?_ _ | refine blk_drew ?_ | refine blk_alloc ?_ _)); exact BK515.out) hb); have n3_ := bs_ HB hb; clear BK507; clear BK508; clear BK515; clear HB; have BK507 := n0_; have BK508 := n1_; have BK515 := n2_; have HB := n3_; clear n0_ n1_ n2_ n3_; (try clear hb); (try clear hb2); (try clear hk); (try clear hi)))
            go_roundg k2
            case measure => have := HJ12.out; have := HK2.out; omega
            case rel => exact ⟨_, _, (by first | rfl | (simp; done) | (simp [*]; done)), (by first | rfl | (simp; done) | (simp [*]; done)), H', ⟨by have := HJ12.out; have := HK2.out; omega⟩, ⟨by (with_reducible repeat (first | refine blk_drewN ?_ _ | refine blk_drew ?_ | refine blk_alloc ?_ _)); exact BK507.out⟩, ⟨by (with_reducible repeat (first | refine blk_drewN ?_ _ | refine blk_drew ?_ | refine blk_alloc ?_ _)); exact BK508.out⟩, ⟨by repeat (first | (with_reducible first | exact HB.out | apply below_alloc | apply pw_below_drewN | apply below_drew1 | refine below_set ?_ GE507.out | refine below_set ?_ GE508.out | refine below_set ?_ GE515.out) | exact HB.out)⟩⟩
         ·rw [if_neg c26] at H
          exact absurd H (by simp)
        ·rw [if_neg c25] at H
         exact absurd H (by simp)
       ·rw [if_neg c24] at H
        have c24b0 : decide (x33_2 < (l1_8.length : Int)) = false := decide_eq_false c24
        clear c24
        obtain rfl := Option.some.inj H
        go_wp2
        go_ret
        exact en_ HB
    ·replace c19 := Bool.eq_false_iff.mpr c19
     subst c19
     have H1 : ((eval_asker_simple.f l0_0 l0_1 a1_0 a1_1 a1_2 a1_3 a1_4 a1_5 a1_6 a1_7 l1_8).bind fun t517 => (some t517)) = some r := by rw [if_neg (show ¬ (false = true) by decide)] at H; exact H
     clear H
     have H := H1
     clear H1
     replace H := Option.bind_eq_some_iff.mp H
     obtain ⟨t517, A510, H⟩ := H
     replace H : (some t517) = some r := H
     have A51 := Aside0.mk A510
     clear A510
     obtain rfl := Option.some.inj H
     have hnb52 := NB507_508.out
     have hnc52 := NB508_507.out
     obtain ⟨C53_0, C53_1⟩ := cz2_ BK507.out
     obtain ⟨F53_0, F53_1⟩ := fz2_ BK507.out
     obtain ⟨C54_0, C54_1, C54_2, C54_3, C54_4, C54_5, C54_6, C54_7, C54_8⟩ := cz9_ BK508.out
     obtain ⟨F54_0, F54_1, F54_2, F54_3, F54_4, F54_5, F54_6, F54_7, F54_8⟩ := fz9_ BK508.out
     go_wp2_with (first | ((with_reducible refine gate_callee (f := 62) rfl ?_); refine gl_ (some 51) rfl Try.func62 #[.agg #[.slice A0_0 l0_0.length c0_0, .slice A0_1 l0_1.length c0_1], .agg #[.int .i64 a1_0, .string a1_1, .int .i64 a1_2, .bool a1_3, .int .i64 a1_4, .string a1_5, .int .i64 a1_6, .string a1_7, .slice A1_8 l1_8.length c1_8]] ?_; (with_reducible refine (eval_asker_simple.calls _ _ l0_0 _ _ l0_1 a1_0 a1_1 a1_2 a1_3 a1_4 a1_5 a1_6 a1_7 _ _ l1_8 t517 _ ?side1 ?side2 ?side3 ?side4 ?side5 ?side6 A51.out).mono ?_); (case side1 => repeat (first | exact (Kd.C_below HR0_0.out HB.out) | (with_reducible refine Kd.C_alloc ?_ _) | (with_reducible refine Kd.C_drewN ?_ _) | (with_reducible refine Kd.C_drew ?_))); (case side2 => exact HC0_0.out); (case side3 => repeat (first | exact (Kd.C_below HR0_1.out HB.out) | (with_reducible refine Kd.C_alloc ?_ _) | (with_reducible refine Kd.C_drewN ?_ _) | (with_reducible refine Kd.C_drew ?_))); (case side4 => exact HC0_1.out); (case side5 => repeat (first | exact (Kd.C_below HR1_8.out HB.out) | (with_reducible refine Kd.C_alloc ?_ _) | (with_reducible refine Kd.C_drewN ?_ _) | (with_reducible refine Kd.C_drew ?_))); (case side6 => exact HC1_8.out); rintro e w55 ⟨rfl, hb⟩; refine ⟨_, rfl, ?_⟩;  replace BK507 := bk_ BK507 hb; replace BK508 := bk_ BK508 hb; replace HB := bs_ HB hb; (try clear hb); (try clear hb2); (try clear hk); (try clear hi)))
     go_ret
     exact en_ HB
end Go.Proofs.Ytdedmhmomoejkaa.X
namespace Go.Proofs.Ytdedmhmomoejkaa.X
open Go.RowKit Go.Proofs.YtdedmhmomoejkaaW.PrintWords Go.Proofs.YtdedmhmomoejkaaW.PrintLast Go.Proofs.YtdedmhmomoejkaaW.PrintMore
attribute [local go_sem] max2_int max_two
set_option linter.unusedVariables false
set_option linter.unusedSimpArgs false
def eval_Row.f (k : Nat) (l0 : List (S64)) (a1_0 : Int) (a1_1 : ByteArray) (a1_2 : Int) (a1_3 : Bool) (a1_4 : Int) (a1_5 : ByteArray) (a1_6 : Int) (a1_7 : ByteArray) (l1_8 : List (S27)) (l2 : List (S24)) : Option (Int × Int) := (pred_Fits.f l0 a1_0 a1_1 a1_2 a1_3 a1_4 a1_5 a1_6 a1_7 l1_8).bind fun t519 => (if t519 = 0 then ((schema_Row.f k l0 l2).bind fun t520 => (if t520 = true then ((eval_asker_ask.f k l0 l2 a1_0 a1_1 a1_2 a1_3 a1_4 a1_5 a1_6 a1_7 l1_8).bind fun t521 => (some (t521, 0))) else (some (0, 10)))) else (some (0, t519)))
theorem eval_Row.mono : ∀ a0 a1 a2 a3 a4 a5 a6 a7 a8 a9 a10 k, LeO (eval_Row.f k a0 a1 a2 a3 a4 a5 a6 a7 a8 a9 a10) (eval_Row.f (k + 1) a0 a1 a2 a3 a4 a5 a6 a7 a8 a9 a10) := by
 intro a0 a1 a2 a3 a4 a5 a6 a7 a8 a9 a10 k
 unfold eval_Row.f
 repeat' first
   | (with_reducible exact eval_asker_ask.mono _ _ _ _ _ _ _ _ _ _ _ _)
   | (with_reducible exact schema_Row.mono _ _ _)
   | (with_reducible exact LeO.refl _)
   | (with_reducible exact LeO.none _)
   | (with_reducible refine LeO.ite ?_ ?_)
   | (with_reducible refine LeO.bind ?_ (fun _ => ?_))
   | exact eval_asker_ask.mono _ _ _ _ _ _ _ _ _ _ _ _
   | exact schema_Row.mono _ _ _
   | exact LeO.none _
   | refine LeO.ite ?_ ?_
   | refine LeO.bind ?_ (fun _ => ?_)
set_option maxHeartbeats 8000000 in
set_option maxRecDepth 100000 in
theorem eval_Row.calls (k : Nat) (A0 : Option Addr) (c0 : Nat) (l0 : List (S64)) (a1_0 : Int) (a1_1 : ByteArray) (a1_2 : Int) (a1_3 : Bool) (a1_4 : Int) (a1_5 : ByteArray) (a1_6 : Int) (a1_7 : ByteArray) (A1_8 : Option Addr) (c1_8 : Nat) (l1_8 : List (S27)) (A2 : Option Addr) (c2 : Nat) (l2 : List (S24)) (r1 : Int) (r2 : Int) (w : World) (hr0 : Kd.C k64 w A0 l0.length l0) (hc0 : l0.length ≤ c0) (hr1_8 : Kd.C k27 w A1_8 l1_8.length l1_8) (hc1_8 : l1_8.length ≤ c1_8) (hr2 : Kd.C k24 w A2 l2.length l2) (hc2 : l2.length ≤ c2) (h : eval_Row.f k l0 a1_0 a1_1 a1_2 a1_3 a1_4 a1_5 a1_6 a1_7 l1_8 l2 = some (r1, r2)) :
  Calls Try.prog 22 #[.slice A0 l0.length c0, .agg #[.int .i64 a1_0, .string a1_1, .int .i64 a1_2, .bool a1_3, .int .i64 a1_4, .string a1_5, .int .i64 a1_6, .string a1_7, .slice A1_8 l1_8.length c1_8], .slice A2 l2.length c2] w fun e w' => e = .returned (.tuple #[.int .i64 r1, .int .i64 r2]) ∧ Below w.heap.size w w' := by
 have hu27 := Try.underlying27
 have hu81 := Try.underlying81
 have HR0 := Aside0.mk hr0
 have HC0 := Aside0.mk hc0
 clear hr0 hc0
 have HR1_8 := Aside0.mk hr1_8
 have HC1_8 := Aside0.mk hc1_8
 clear hr1_8 hc1_8
 have HR2 := Aside0.mk hr2
 have HC2 := Aside0.mk hc2
 clear hr2 hc2
 have HB := Aside0.mk (Below.refl w.heap.size w)
 have H : ((pred_Fits.f l0 a1_0 a1_1 a1_2 a1_3 a1_4 a1_5 a1_6 a1_7 l1_8).bind fun t519 => (if t519 = 0 then ((schema_Row.f k l0 l2).bind fun t520 => (if t520 = true then ((eval_asker_ask.f k l0 l2 a1_0 a1_1 a1_2 a1_3 a1_4 a1_5 a1_6 a1_7 l1_8).bind fun t521 => (some (t521, 0))) else (some (0, 10)))) else (some (0, t519)))) = some (r1, r2) := h
 clear h
 replace H := Option.bind_eq_some_iff.mp H
 obtain ⟨t519, A40, H⟩ := H
 replace H : (if t519 = 0 then ((schema_Row.f k l0 l2).bind fun t520 => (if t520 = true then ((eval_asker_ask.f k l0 l2 a1_0 a1_1 a1_2 a1_3 a1_4 a1_5 a1_6 a1_7 l1_8).bind fun t521 => (some (t521, 0))) else (some (0, 10)))) else (some (0, t519))) = some (r1, r2) := H
 have A4 := Aside0.mk A40
 clear A40
 by_cases c5 : t519 = 0
 ·rw [if_pos c5] at H
  have c5b0 : (t519 == 0) = true := beq_iff_eq.mpr c5
  have c5b1 : (t519 != 0) = false := bne_eq_false_iff_eq.mpr c5
  clear c5
  replace H := Option.bind_eq_some_iff.mp H
  obtain ⟨t520, A60, H⟩ := H
  replace H : (if t520 = true then ((eval_asker_ask.f k l0 l2 a1_0 a1_1 a1_2 a1_3 a1_4 a1_5 a1_6 a1_7 l1_8).bind fun t521 => (some (t521, 0))) else (some (0, 10))) = some (r1, r2) := H
  have A6 := Aside0.mk A60
  clear A60
  by_cases c7 : t520 = true
  ·subst c7
   have H1 : ((eval_asker_ask.f k l0 l2 a1_0 a1_1 a1_2 a1_3 a1_4 a1_5 a1_6 a1_7 l1_8).bind fun t521 => (some (t521, 0))) = some (r1, r2) := by rw [if_pos rfl] at H; exact H
   clear H
   have H := H1
   clear H1
   replace H := Option.bind_eq_some_iff.mp H
   obtain ⟨t521, A80, H⟩ := H
   replace H : (some (t521, 0)) = some (r1, r2) := H
   have A8 := Aside0.mk A80
   clear A80
   simp only [Option.some.injEq, Prod.mk.injEq] at H
   obtain ⟨rfl, rfl⟩ := H
   go_enter Try.func22, Try.ntmps22
   go_wp2_with (first | (refine bx_ (N := 4) (cs := #[.int .i64 a1_0, .string a1_1, .int .i64 a1_2, .bool a1_3, .int .i64 a1_4, .string a1_5, .int .i64 a1_6, .string a1_7, .slice A1_8 l1_8.length c1_8]) (t := 27) ?_; intro gb518 hg w9 hbox hb; have BK518 := Aside0.mk (hbox); have GW518 := ge_ HB hg; have GE518 := ge_ HB hg; replace HB := bs_ HB hb; clear hb hbox hg; obtain ⟨C10_0, C10_1, C10_2, C10_3, C10_4, C10_5, C10_6, C10_7, C10_8⟩ := zc9_ BK518.out; obtain ⟨F10_0, F10_1, F10_2, F10_3, F10_4, F10_5, F10_6, F10_7, F10_8⟩ := zf9_ BK518.out) | ((with_reducible refine gate_callee (f := 27) rfl ?_); refine gl_ (some 11) rfl Try.func27 #[.slice A0 l0.length c0, .agg #[.int .i64 a1_0, .string a1_1, .int .i64 a1_2, .bool a1_3, .int .i64 a1_4, .string a1_5, .int .i64 a1_6, .string a1_7, .slice A1_8 l1_8.length c1_8]] ?_; (with_reducible refine (pred_Fits.calls _ _ l0 a1_0 a1_1 a1_2 a1_3 a1_4 a1_5 a1_6 a1_7 _ _ l1_8 t519 _ ?side1 ?side2 ?side3 ?side4 A4.out).mono ?_); (case side1 => repeat (first | exact (Kd.C_below HR0.out HB.out) | (with_reducible refine Kd.C_alloc ?_ _) | (with_reducible refine Kd.C_drewN ?_ _) | (with_reducible refine Kd.C_drew ?_))); (case side2 => exact HC0.out); (case side3 => repeat (first | exact (Kd.C_below HR1_8.out HB.out) | (with_reducible refine Kd.C_alloc ?_ _) | (with_reducible refine Kd.C_drewN ?_ _) | (with_reducible refine Kd.C_drew ?_))); (case side4 => exact HC1_8.out); rintro e w11 ⟨rfl, hb⟩; refine ⟨_, rfl, ?_⟩;  replace BK518 := bk_ BK518 hb; replace HB := bs_ HB hb; (try clear hb)) | ((with_reducible refine gate_callee (f := 40) rfl ?_); refine gl_ (some 17) rfl Try.func40 #[.slice A0 l0.length c0, .slice A2 l2.length c2] ?_; (with_reducible refine (schema_Row.calls k _ _ l0 _ _ l2 true _ ?side1 ?side2 ?side3 ?side4 A6.out).mono ?_); (case side1 => repeat (first | exact (Kd.C_below HR0.out HB.out) | (with_reducible refine Kd.C_alloc ?_ _) | (with_reducible refine Kd.C_drewN ?_ _) | (with_reducible refine Kd.C_drew ?_))); (case side2 => exact HC0.out); (case side3 => repeat (first | exact (Kd.C_below HR2.out HB.out) | (with_reducible refine Kd.C_alloc ?_ _) | (with_reducible refine Kd.C_drewN ?_ _) | (with_reducible refine Kd.C_drew ?_))); (case side4 => exact HC2.out); rintro e w12 ⟨rfl, hb⟩; refine ⟨_, rfl, ?_⟩;  replace BK518 := bk_ BK518 hb; replace HB := bs_ HB hb; (try clear hb); obtain ⟨C13_0, C13_1, C13_2, C13_3, C13_4, C13_5, C13_6, C13_7, C13_8⟩ := zc9_ BK518.out; obtain ⟨F13_0, F13_1, F13_2, F13_3, F13_4, F13_5, F13_6, F13_7, F13_8⟩ := zf9_ BK518.out) | ((with_reducible refine gate_callee (f := 41) rfl ?_); refine gl_ (some 23) rfl Try.func41 #[.agg #[.slice A0 l0.length c0, .slice A2 l2.length c2], .agg #[.int .i64 a1_0, .string a1_1, .int .i64 a1_2, .bool a1_3, .int .i64 a1_4, .string a1_5, .int .i64 a1_6, .string a1_7, .slice A1_8 l1_8.length c1_8]] ?_; (with_reducible refine (eval_asker_ask.calls k _ _ l0 _ _ l2 a1_0 a1_1 a1_2 a1_3 a1_4 a1_5 a1_6 a1_7 _ _ l1_8 t521 _ ?side1 ?side2 ?side3 ?side4 ?side5 ?side6 A8.out).mono ?_); (case side1 => repeat (first | exact (Kd.C_below HR0.out HB.out) | (with_reducible refine Kd.C_alloc ?_ _) | (with_reducible refine Kd.C_drewN ?_ _) | (with_reducible refine Kd.C_drew ?_))); (case side2 => exact HC0.out); (case side3 => repeat (first | exact (Kd.C_below HR2.out HB.out) | (with_reducible refine Kd.C_alloc ?_ _) | (with_reducible refine Kd.C_drewN ?_ _) | (with_reducible refine Kd.C_drew ?_))); (case side4 => exact HC2.out); (case side5 => repeat (first | exact (Kd.C_below HR1_8.out HB.out) | (with_reducible refine Kd.C_alloc ?_ _) | (with_reducible refine Kd.C_drewN ?_ _) | (with_reducible refine Kd.C_drew ?_))); (case side6 => exact HC1_8.out); rintro e w14 ⟨rfl, hb⟩; refine ⟨_, rfl, ?_⟩;  replace BK518 := bk_ BK518 hb; replace HB := bs_ HB hb; (try clear hb)))
   go_ret2
   exact en_ HB
  ·replace c7 := Bool.eq_false_iff.mpr c7
   subst c7
   have H1 : (some (0, 10)) = some (r1, r2) := by rw [if_neg (show ¬ (false = true) by decide)] at H; exact H
   clear H
   have H := H1
   clear H1
   simp only [Option.some.injEq, Prod.mk.injEq] at H
   obtain ⟨rfl, rfl⟩ := H
   go_enter Try.func22, Try.ntmps22
   go_wp2_with (first | (refine bx_ (N := 4) (cs := #[.int .i64 a1_0, .string a1_1, .int .i64 a1_2, .bool a1_3, .int .i64 a1_4, .string a1_5, .int .i64 a1_6, .string a1_7, .slice A1_8 l1_8.length c1_8]) (t := 27) ?_; intro gb518 hg w15 hbox hb; have BK518 := Aside0.mk (hbox); have GW518 := ge_ HB hg; have GE518 := ge_ HB hg; replace HB := bs_ HB hb; clear hb hbox hg; obtain ⟨C16_0, C16_1, C16_2, C16_3, C16_4, C16_5, C16_6, C16_7, C16_8⟩ := zc9_ BK518.out; obtain ⟨F16_0, F16_1, F16_2, F16_3, F16_4, F16_5, F16_6, F16_7, F16_8⟩ := zf9_ BK518.out) | ((with_reducible refine gate_callee (f := 27) rfl ?_); refine gl_ (some 11) rfl Try.func27 #[.slice A0 l0.length c0, .agg #[.int .i64 a1_0, .string a1_1, .int .i64 a1_2, .bool a1_3, .int .i64 a1_4, .string a1_5, .int .i64 a1_6, .string a1_7, .slice A1_8 l1_8.length c1_8]] ?_; (with_reducible refine (pred_Fits.calls _ _ l0 a1_0 a1_1 a1_2 a1_3 a1_4 a1_5 a1_6 a1_7 _ _ l1_8 t519 _ ?side1 ?side2 ?side3 ?side4 A4.out).mono ?_); (case side1 => repeat (first | exact (Kd.C_below HR0.out HB.out) | (with_reducible refine Kd.C_alloc ?_ _) | (with_reducible refine Kd.C_drewN ?_ _) | (with_reducible refine Kd.C_drew ?_))); (case side2 => exact HC0.out); (case side3 => repeat (first | exact (Kd.C_below HR1_8.out HB.out) | (with_reducible refine Kd.C_alloc ?_ _) | (with_reducible refine Kd.C_drewN ?_ _) | (with_reducible refine Kd.C_drew ?_))); (case side4 => exact HC1_8.out); rintro e w17 ⟨rfl, hb⟩; refine ⟨_, rfl, ?_⟩;  replace BK518 := bk_ BK518 hb; replace HB := bs_ HB hb; (try clear hb)) | ((with_reducible refine gate_callee (f := 40) rfl ?_); refine gl_ (some 17) rfl Try.func40 #[.slice A0 l0.length c0, .slice A2 l2.length c2] ?_; (with_reducible refine (schema_Row.calls k _ _ l0 _ _ l2 false _ ?side1 ?side2 ?side3 ?side4 A6.out).mono ?_); (case side1 => repeat (first | exact (Kd.C_below HR0.out HB.out) | (with_reducible refine Kd.C_alloc ?_ _) | (with_reducible refine Kd.C_drewN ?_ _) | (with_reducible refine Kd.C_drew ?_))); (case side2 => exact HC0.out); (case side3 => repeat (first | exact (Kd.C_below HR2.out HB.out) | (with_reducible refine Kd.C_alloc ?_ _) | (with_reducible refine Kd.C_drewN ?_ _) | (with_reducible refine Kd.C_drew ?_))); (case side4 => exact HC2.out); rintro e w18 ⟨rfl, hb⟩; refine ⟨_, rfl, ?_⟩;  replace BK518 := bk_ BK518 hb; replace HB := bs_ HB hb; (try clear hb)))
   go_ret2
   exact en_ HB
 ·rw [if_neg c5] at H
  have c5b0 : (t519 == 0) = false := beq_eq_false_iff_ne.mpr c5
  have c5b1 : (t519 != 0) = true := bne_iff_ne.mpr c5
  simp only [Option.some.injEq, Prod.mk.injEq] at H
  obtain ⟨rfl, rfl⟩ := H
  go_enter Try.func22, Try.ntmps22
  go_wp2_with (first | (refine bx_ (N := 4) (cs := #[.int .i64 a1_0, .string a1_1, .int .i64 a1_2, .bool a1_3, .int .i64 a1_4, .string a1_5, .int .i64 a1_6, .string a1_7, .slice A1_8 l1_8.length c1_8]) (t := 27) ?_; intro gb518 hg w19 hbox hb; have BK518 := Aside0.mk (hbox); have GW518 := ge_ HB hg; have GE518 := ge_ HB hg; replace HB := bs_ HB hb; clear hb hbox hg; obtain ⟨C20_0, C20_1, C20_2, C20_3, C20_4, C20_5, C20_6, C20_7, C20_8⟩ := zc9_ BK518.out; obtain ⟨F20_0, F20_1, F20_2, F20_3, F20_4, F20_5, F20_6, F20_7, F20_8⟩ := zf9_ BK518.out) | ((with_reducible refine gate_callee (f := 27) rfl ?_); refine gl_ (some 11) rfl Try.func27 #[.slice A0 l0.length c0, .agg #[.int .i64 a1_0, .string a1_1, .int .i64 a1_2, .bool a1_3, .int .i64 a1_4, .string a1_5, .int .i64 a1_6, .string a1_7, .slice A1_8 l1_8.length c1_8]] ?_; (with_reducible refine (pred_Fits.calls _ _ l0 a1_0 a1_1 a1_2 a1_3 a1_4 a1_5 a1_6 a1_7 _ _ l1_8 t519 _ ?side1 ?side2 ?side3 ?side4 A4.out).mono ?_); (case side1 => repeat (first | exact (Kd.C_below HR0.out HB.out) | (with_reducible refine Kd.C_alloc ?_ _) | (with_reducible refine Kd.C_drewN ?_ _) | (with_reducible refine Kd.C_drew ?_))); (case side2 => exact HC0.out); (case side3 => repeat (first | exact (Kd.C_below HR1_8.out HB.out) | (with_reducible refine Kd.C_alloc ?_ _) | (with_reducible refine Kd.C_drewN ?_ _) | (with_reducible refine Kd.C_drew ?_))); (case side4 => exact HC1_8.out); rintro e w21 ⟨rfl, hb⟩; refine ⟨_, rfl, ?_⟩;  replace BK518 := bk_ BK518 hb; replace HB := bs_ HB hb; (try clear hb)))
  go_ret2
  exact en_ HB
end Go.Proofs.Ytdedmhmomoejkaa.X
namespace Go.Proofs.Ytdedmhmomoejkaa.X
open Go.RowKit Go.Proofs.YtdedmhmomoejkaaW.PrintWords Go.Proofs.YtdedmhmomoejkaaW.PrintLast
set_option linter.unusedVariables false
set_option linter.unusedSimpArgs false
theorem typed_kind (l : List S64) (x : S27) (h : typedB l x = true) (hn : x.f1.toList ≠ []) : (x.f0 = 2 → (rd_T64 l (colI l x)).f1 = x.f4) ∧ (x.f0 = 4 → (rd_T64 l (colI l x)).f1 = 3) := by
  have h0 := typed_found l x h hn
  have hs := typed_some l x
  rw [h] at hs
  unfold pred_typed.f schema_Find.f at hs
  rw [if_neg hn] at hs
  simp only [Option.bind_some] at hs
  have hb := idxOf_lt (fun y : S64 => y.f0.toList == x.f1.toList) l
  unfold colI
  generalize idxOf (fun y : S64 => y.f0.toList == x.f1.toList) l = q at h0 hs hb ⊢
  have h1 : mx q 0 = q := by unfold mx; split <;> omega
  rw [h1, decide_eq_true h0, if_pos rfl] at hs
  refine ⟨fun h2 => ?_, fun h4 => ?_⟩
  · rw [if_pos h2, if_pos h0, if_pos hb] at hs
    exact beq_iff_eq.1 (Option.some.inj hs)
  · rw [if_neg (by omega), if_pos h4, if_pos h0, if_pos hb] at hs
    exact beq_iff_eq.1 (Option.some.inj hs)
theorem may_kind (ty : Int) (n a : Bool) (b : Int) (c : ByteArray) (h : cell_May.f ty n a b c = some true) : (ty = 1 ∨ ty = 2 ∨ ty = 3) ∧ (ty = 3 → c.size ≤ 4398046511104) := by
  have hsz : c.toList = [] → c.size = 0 := fun e => by rw [ByteArray.toList_eq] at e; have := data_length c; rw [e] at this; exact this.symm
  unfold cell_May.f at h
  by_cases ha : a = true
  · rw [if_pos ha] at h
    by_cases hn : n = true
    · rw [if_pos hn] at h
      by_cases h1 : ty ≥ 1
      · rw [if_pos h1] at h
        by_cases h3 : ty ≤ 3
        · rw [if_pos h3] at h
          have h := Option.some.inj h
          simp only [Bool.and_eq_true, List.isEmpty_iff] at h
          exact ⟨by omega, fun _ => by rw [hsz h.2.2]; omega⟩
        · rw [if_neg h3] at h; simp at h
      · rw [if_neg h1] at h; simp at h
    · rw [if_neg hn] at h; simp at h
  · rw [if_neg ha] at h
    by_cases h1 : ty = 1
    · exact ⟨.inl h1, fun h => by omega⟩
    · rw [if_neg h1] at h
      by_cases h2 : ty = 2
      · exact ⟨.inr (.inl h2), fun h => by omega⟩
      · rw [if_neg h2] at h
        by_cases h3 : ty = 3
        · rw [if_pos h3] at h
          refine ⟨.inr (.inr h3), fun _ => ?_⟩
          by_cases hb : b = 0
          · rw [if_pos hb] at h
            have := of_decide_eq_true (Option.some.inj h)
            omega
          · rw [if_neg hb] at h; simp at h
        · rw [if_neg h3] at h; simp at h
def not3 (t : Int) : Int := if t = 2 then 2 else wrap64 (1 - t)
def loop3 (s out : Int) : List Int → Int
  | [] => out
  | t :: r => if t = s then s else if t = 2 then loop3 s 2 r else loop3 s out r
def ask3 (l0 : List S64) (l1 : List S24) : Nat → S27 → Int
  | 0, _ => 0
  | d + 1, x => if x.f0 = 5 then not3 (ask3 l0 l1 d (rd_T27 x.f6 0)) else if x.f0 = 6 then loop3 0 1 (x.f6.map (ask3 l0 l1 d)) else if x.f0 = 7 then loop3 1 0 (x.f6.map (ask3 l0 l1 d)) else if x.f0 = 1 then 1 else simpV l0 l1 x
theorem not3_f (t : Int) : eval_not.f t = some (not3 t) := by
  unfold eval_not.f not3
  split <;> rfl
theorem loop3_tot (l0 : List S64) (l1 : List S24) (kids : List S27) (g : S27 → Int) (hk : kids.length ≤ 9223372036854775806) (s : Int)
    (h : ∀ y, y ∈ kids → TotP (fun r => r = g y) (fun k => eval_asker_ask.f k l0 l1 y.f0 y.f1 y.f2 y.f3.f0 y.f3.f1 y.f3.f2 y.f4 y.f5 y.f6)) :
    ∀ (n i : Nat) (o : Int), i + n = kids.length → TotP (fun r => r = loop3 s o ((kids.drop i).map g)) (fun k => eval_asker_ask.l0 k s o kids (kids.length : Int) (i : Int) l0 l1) := by
  intro n
  induction n with
  | zero =>
    intro i o hi
    refine TotP.succ (fun k => by simp only [eval_asker_ask.l0]; rfl) ?_
    refine TotP.ite (fun h => absurd h (by omega)) (fun _ => TotP.some_ ?_)
    rw [List.drop_of_length_le (by omega)]; rfl
  | succ n ih =>
    intro i o hi
    refine TotP.succ (fun k => by simp only [eval_asker_ask.l0]; rfl) ?_
    refine TotP.ite (fun _ => ?_) (fun h => absurd (by omega) h)
    refine TotP.ite (fun _ => ?_) (fun h => absurd (by omega) h)
    refine TotP.ite (fun _ => ?_) (fun h => absurd (by omega) h)
    refine TotP.bind (h _ (rd27_mem kids i (by omega))) (fun t ht => ?_)
    rw [rd27_get kids i (by omega)] at ht
    have hw : wrap64 ((i : Int) + 1) = ((i + 1 : Nat) : Int) := by rw [wrap_in (by omega) (by omega)]; omega
    rw [hw]
    have hd := List.drop_eq_getElem_cons (show i < kids.length by omega)
    refine TotP.ite (fun h1 => TotP.some_ ?_) (fun h1 => ?_)
    · rw [hd, List.map_cons, loop3, ← ht, if_pos h1]
    · refine TotP.ite (fun h2 => ?_) (fun h2 => ?_)
      · refine (ih (i + 1) 2 (by omega)).weak (fun r hr => ?_)
        rw [hr, hd, List.map_cons, loop3, ← ht, if_neg h1, if_pos h2]
      · refine (ih (i + 1) o (by omega)).weak (fun r hr => ?_)
        rw [hr, hd, List.map_cons, loop3, ← ht, if_neg h1, if_neg h2]
theorem pat_len (x : S27) (hf : fieldsB x = true) (h4 : x.f0 = 4) : x.f5.size ≤ 40 := by
  rw [fieldsB_eq, Bool.and_eq_true] at hf
  have h := hf.2
  unfold opB at h
  rw [if_neg (by omega), if_neg (by omega), if_neg (by omega), if_pos h4] at h
  simp only [Bool.and_eq_true, decide_eq_true_eq] at h
  exact h.2
theorem ask3_tot (l0 : List S64) (l1 : List S24) (hz : l0.length = l1.length) (hm : ∀ i : Nat, i < l0.length → cell_May.f (rd_T64 l0 (i : Int)).f1 (rd_T64 l0 (i : Int)).f2 (rd_T24 l1 (i : Int)).f0 (rd_T24 l1 (i : Int)).f1 (rd_T24 l1 (i : Int)).f2 = some true) :
    ∀ (d : Nat) (x : S27), Lens d x → Good mayStep d x → Good (typedStep l0) d x → TotP (fun r => r = ask3 l0 l1 d x) (fun k => eval_asker_ask.f k l0 l1 x.f0 x.f1 x.f2 x.f3.f0 x.f3.f1 x.f3.f2 x.f4 x.f5 x.f6) := by
  intro d
  induction d with
  | zero => intro x _ h _; obtain ⟨e, h, _⟩ := h.step; omega
  | succ d ih =>
    intro x hl hg ht
    obtain ⟨e, he, ⟨s, hs⟩, hmk⟩ := hg.step
    obtain ⟨e', he', ⟨s', hs'⟩, htk⟩ := ht.step
    have he1 : e = d := by omega
    have he2 : e' = d := by omega
    rw [he1] at hmk
    rw [he2] at htk
    have hlen : x.f6.length ≤ 9223372036854775806 := hl.1
    have hk : ∀ y, y ∈ x.f6 → TotP (fun r => r = ask3 l0 l1 d y) (fun k => eval_asker_ask.f k l0 l1 y.f0 y.f1 y.f2 y.f3.f0 y.f3.f1 y.f3.f2 y.f4 y.f5 y.f6) := fun y hy => ih y (hl.2 y hy) (hmk y hy) (htk y hy)
    simp only [mayStep, Bool.and_eq_true] at hs
    have hty : typedB l0 x = true := hs'
    have hf := hs.2.1
    refine TotP.succ (fun k => by simp only [eval_asker_ask.f]; rfl) ?_
    have leaf : x.f0 ≠ 5 → x.f0 ≠ 6 → x.f0 ≠ 7 → eval_asker_simple.f l0 l1 x.f0 x.f1 x.f2 x.f3.f0 x.f3.f1 x.f3.f2 x.f4 x.f5 x.f6 = some (ask3 l0 l1 (d + 1) x) := by
      intro h5 h6 h7
      rw [ask3, if_neg h5, if_neg h6, if_neg h7]
      show simpF l0 l1 x = _
      unfold simpF
      by_cases h1 : x.f0 = 1
      · rw [if_pos h1, if_pos h1]
      · rw [if_neg h1, if_neg h1]
        have hn : (x.f0 = 2 ∨ x.f0 = 3 ∨ x.f0 = 4) ∧ nameB x.f1 = true := by
          rcases fields_cases x hf with h | h | h
          · exact absurd h h1
          · exact h
          · omega
        have hne := name_ne _ hn.2
        have h0 := typed_found l0 x hty hne
        have hb := idxOf_lt (fun y : S64 => y.f0.toList == x.f1.toList) l0
        have hkd := typed_kind l0 x hty hne
        have hv := val_in x hf
        have hc : (0 : Int) ≤ colI l0 x ∧ colI l0 x < l0.length := ⟨h0, hb⟩
        obtain ⟨j, hj⟩ : ∃ j : Nat, colI l0 x = (j : Int) := ⟨(colI l0 x).toNat, by omega⟩
        have hmj := may_kind _ _ _ _ _ (hm j (by omega))
        rw [if_pos]
        refine decide_eq_true ⟨⟨hc.1, by omega⟩, ?_, hn.1, fun h2 => ⟨(hkd.1 h2).symm, (hv h2).2⟩, fun h4 => ⟨hkd.2 h4, by have := pat_len x hf h4; omega, ?_⟩⟩
        · rw [hj]; exact hmj.1
        · have := hkd.2 h4
          rw [hj] at this ⊢
          exact hmj.2 this
    refine TotP.ite (fun h5 => ?_) (fun h5 => ?_)
    · have h1 := kids_len x.f0 x.f6 hs.2.2 h5
      refine TotP.ite (fun _ => ?_) (fun h' => absurd (by omega) h')
      refine TotP.bind (hk _ (rd27_mem x.f6 0 (by omega))) (fun t ht => ?_)
      simp only [not3_f, Option.bind_some]
      exact TotP.some_ (by rw [ask3, if_pos h5, ht])
    · have hj : ∀ b : Bool, (b = true ↔ x.f0 = 6 ∨ x.f0 = 7) → TotP (fun r => r = ask3 l0 l1 (d + 1) x) (fun k => eval_asker_ask.j0 k b l0 l1 x.f0 x.f1 x.f2 x.f3.f0 x.f3.f1 x.f3.f2 x.f4 x.f5 x.f6) := by
        intro b hb
        refine TotP.succ (fun k => by simp only [eval_asker_ask.j0]; rfl) ?_
        refine TotP.ite (fun hbt => ?_) (fun hbt => ?_)
        · by_cases h7 : x.f0 = 7
          · simp only [eval_truth.f, beq_iff_eq.2 h7, if_true, Option.bind_some, not3_f]
            have hn1 : not3 1 = 0 := by rw [not3, if_neg (by decide), wrap_in (by omega) (by omega)]; rfl
            rw [hn1]
            refine (loop3_tot l0 l1 x.f6 (ask3 l0 l1 d) hlen 1 hk x.f6.length 0 0 (by omega)).weak (fun r hr => ?_)
            rw [hr, ask3, if_neg h5, if_neg (by omega), if_pos h7, List.drop_zero]
          · have h6 : x.f0 = 6 := by have := hb.1 hbt; omega
            simp only [eval_truth.f, beq_eq_false_iff_ne.2 h7, if_neg (show ¬ (false = true) by decide), Option.bind_some, not3_f]
            have hn0 : not3 0 = 1 := by rw [not3, if_neg (by decide), wrap_in (by omega) (by omega)]; rfl
            rw [hn0]
            refine (loop3_tot l0 l1 x.f6 (ask3 l0 l1 d) hlen 0 hk x.f6.length 0 1 (by omega)).weak (fun r hr => ?_)
            rw [hr, ask3, if_neg h5, if_pos h6, List.drop_zero]
        · have h67 : ¬ (x.f0 = 6 ∨ x.f0 = 7) := fun h => hbt (hb.2 h)
          rw [leaf h5 (fun h => h67 (.inl h)) (fun h => h67 (.inr h))]
          exact TotP.some_ rfl
      refine TotP.ite (fun h6 => hj _ ?_) (fun h6 => hj _ ?_)
      · simp [h6]
      · rw [beq_iff_eq]; omega
end Go.Proofs.Ytdedmhmomoejkaa.X
namespace Go.Proofs.Ytdedmhmomoejkaa.X
open Go.RowKit Go.Proofs.YtdedmhmomoejkaaW.PrintWords Go.Proofs.YtdedmhmomoejkaaW.PrintLast Go.Proofs.YtdedmhmomoejkaaW.PrintMore
attribute [local go_sem] max2_int max_two
set_option linter.unusedVariables false
set_option linter.unusedSimpArgs false
def firkinref20_yes.f (a0 : Bool) : Option (Int) := if a0 = true then (some 1) else (some 0)
set_option maxHeartbeats 8000000 in
set_option maxRecDepth 100000 in
theorem firkinref20_yes.calls (a0 : Bool) (r : Int) (w : World) (h : firkinref20_yes.f a0 = some r) :
  Calls Try.prog 37 #[.bool a0] w fun e w' => e = .returned (.int .i64 r) ∧ Drawn0 w w' := by
 have H : (if a0 = true then (some 1) else (some 0)) = some r := h
 clear h
 by_cases c2 : a0 = true
 rotate_left
 focus
  replace c2 := Bool.eq_false_iff.mpr c2
  subst c2
  have H1 : (some 0) = some r := by rw [if_neg (show ¬ (false = true) by decide)] at H; exact H
 rotate_right
 focus
  subst c2
  have H1 : (some 1) = some r := by rw [if_pos rfl] at H; exact H
 all_goals
  clear H
  have H := H1
  clear H1
  obtain rfl := Option.some.inj H
  go_enter Try.func37, Try.ntmps37
  go_wp2
  go_ret
  exact ⟨by first | rfl | (simp; done) | (simp [*]; done), by repeat (first | exact Drawn0.refl _ | apply Drawn0.step)⟩
end Go.Proofs.Ytdedmhmomoejkaa.X
namespace Go.Proofs.Ytdedmhmomoejkaa.X
open Go.RowKit Go.Proofs.YtdedmhmomoejkaaW.PrintWords Go.Proofs.YtdedmhmomoejkaaW.PrintLast Go.Proofs.YtdedmhmomoejkaaW.PrintMore
attribute [local go_sem] max2_int max_two
set_option linter.unusedVariables false
set_option linter.unusedSimpArgs false
def firkinref20_cmp.f (k : Nat) (a0_0 : Bool) (a0_1 : Int) (a0_2 : ByteArray) (a1 : Int) (a2_0 : Bool) (a2_1 : Int) (a2_2 : ByteArray) : Option (Bool) := (firkinref09_Order.f k a0_0 a0_1 a0_2 a2_0 a2_1 a2_2).bind fun t347 => (if a1 = 1 then (some (t347 == 0)) else (if a1 = 2 then (some (t347 != 0)) else (if a1 = 3 then (some (decide (t347 < 0))) else (if a1 = 4 then (some (decide (t347 ≤ 0))) else (if a1 = 5 then (some (decide (t347 > 0))) else (some (decide (t347 ≥ 0))))))))
theorem firkinref20_cmp.mono : ∀ a0 a1 a2 a3 a4 a5 a6 k, LeO (firkinref20_cmp.f k a0 a1 a2 a3 a4 a5 a6) (firkinref20_cmp.f (k + 1) a0 a1 a2 a3 a4 a5 a6) := by
 intro a0 a1 a2 a3 a4 a5 a6 k
 unfold firkinref20_cmp.f
 repeat' first
   | (with_reducible exact firkinref09_Order.mono _ _ _ _ _ _ _)
   | (with_reducible exact LeO.refl _)
   | (with_reducible exact LeO.none _)
   | (with_reducible refine LeO.ite ?_ ?_)
   | (with_reducible refine LeO.bind ?_ (fun _ => ?_))
   | exact firkinref09_Order.mono _ _ _ _ _ _ _
   | exact LeO.none _
   | refine LeO.ite ?_ ?_
   | refine LeO.bind ?_ (fun _ => ?_)
set_option maxHeartbeats 8000000 in
set_option maxRecDepth 100000 in
theorem firkinref20_cmp.calls (k : Nat) (a0_0 : Bool) (a0_1 : Int) (a0_2 : ByteArray) (a1 : Int) (a2_0 : Bool) (a2_1 : Int) (a2_2 : ByteArray) (r : Bool) (w : World) (h : firkinref20_cmp.f k a0_0 a0_1 a0_2 a1 a2_0 a2_1 a2_2 = some r) :
  Calls Try.prog 38 #[.agg #[.bool a0_0, .int .i64 a0_1, .string a0_2], .int .i64 a1, .agg #[.bool a2_0, .int .i64 a2_1, .string a2_2]] w fun e w' => e = .returned (.bool r) ∧ Below w.heap.size w w' := by
 have hu24 := Try.underlying24
 have HB := Aside0.mk (Below.refl w.heap.size w)
 have H : ((firkinref09_Order.f k a0_0 a0_1 a0_2 a2_0 a2_1 a2_2).bind fun t347 => (if a1 = 1 then (some (t347 == 0)) else (if a1 = 2 then (some (t347 != 0)) else (if a1 = 3 then (some (decide (t347 < 0))) else (if a1 = 4 then (some (decide (t347 ≤ 0))) else (if a1 = 5 then (some (decide (t347 > 0))) else (some (decide (t347 ≥ 0))))))))) = some r := h
 clear h
 replace H := Option.bind_eq_some_iff.mp H
 obtain ⟨t347, A40, H⟩ := H
 replace H : (if a1 = 1 then (some (t347 == 0)) else (if a1 = 2 then (some (t347 != 0)) else (if a1 = 3 then (some (decide (t347 < 0))) else (if a1 = 4 then (some (decide (t347 ≤ 0))) else (if a1 = 5 then (some (decide (t347 > 0))) else (some (decide (t347 ≥ 0)))))))) = some r := H
 have A4 := Aside0.mk A40
 clear A40
 by_cases c5 : a1 = 1
 rotate_left
 focus
  rw [if_neg c5] at H
  have c5b0 : (a1 == 1) = false := beq_eq_false_iff_ne.mpr c5
  have c5b1 : (a1 != 1) = true := bne_iff_ne.mpr c5
  by_cases c12 : a1 = 2
  rotate_left
  focus
   rw [if_neg c12] at H
   have c12b0 : (a1 == 2) = false := beq_eq_false_iff_ne.mpr c12
   have c12b1 : (a1 != 2) = true := bne_iff_ne.mpr c12
   by_cases c19 : a1 = 3
   rotate_left
   focus
    rw [if_neg c19] at H
    have c19b0 : (a1 == 3) = false := beq_eq_false_iff_ne.mpr c19
    have c19b1 : (a1 != 3) = true := bne_iff_ne.mpr c19
    by_cases c26 : a1 = 4
    rotate_left
    focus
     rw [if_neg c26] at H
     have c26b0 : (a1 == 4) = false := beq_eq_false_iff_ne.mpr c26
     have c26b1 : (a1 != 4) = true := bne_iff_ne.mpr c26
     by_cases c33 : a1 = 5
     rotate_left
     focus
      rw [if_neg c33] at H
      have c33b0 : (a1 == 5) = false := beq_eq_false_iff_ne.mpr c33
      have c33b1 : (a1 != 5) = true := bne_iff_ne.mpr c33
     rotate_right
     focus
      rw [if_pos c33] at H
      have c33b0 : (a1 == 5) = true := beq_iff_eq.mpr c33
      have c33b1 : (a1 != 5) = false := bne_eq_false_iff_eq.mpr c33
      clear c33
    rotate_right
    focus
     rw [if_pos c26] at H
     have c26b0 : (a1 == 4) = true := beq_iff_eq.mpr c26
     have c26b1 : (a1 != 4) = false := bne_eq_false_iff_eq.mpr c26
     clear c26
   rotate_right
   focus
    rw [if_pos c19] at H
    have c19b0 : (a1 == 3) = true := beq_iff_eq.mpr c19
    have c19b1 : (a1 != 3) = false := bne_eq_false_iff_eq.mpr c19
    clear c19
  rotate_right
  focus
   rw [if_pos c12] at H
   have c12b0 : (a1 == 2) = true := beq_iff_eq.mpr c12
   have c12b1 : (a1 != 2) = false := bne_eq_false_iff_eq.mpr c12
   clear c12
 rotate_right
 focus
  rw [if_pos c5] at H
  have c5b0 : (a1 == 1) = true := beq_iff_eq.mpr c5
  have c5b1 : (a1 != 1) = false := bne_eq_false_iff_eq.mpr c5
  clear c5
 all_goals
  obtain rfl := Option.some.inj H
  go_enter Try.func38, Try.ntmps38
  go_wp2_with (first | (refine bx_ (N := 3) (cs := #[.bool a0_0, .int .i64 a0_1, .string a0_2]) (t := 24) ?_; intro gb345 hg w6 hbox hb; have BK345 := Aside0.mk (hbox); have GW345 := ge_ HB hg; have GE345 := ge_ HB hg; replace HB := bs_ HB hb; clear hb hbox hg) | (refine bx_ (N := 5) (cs := #[.bool a2_0, .int .i64 a2_1, .string a2_2]) (t := 24) ?_; intro gb346 hg w7 hbox hb; have BK346 := Aside0.mk (hbox); have GW346 := ge_ HB hg; have GE346 := ge_ HB hg; have NB345_346 := lt_ BK345 hg; have NB346_345 := gt_ BK345 hg; replace BK345 := bk_ BK345 hb; replace HB := bs_ HB hb; clear hb hbox hg; have hnb8 := NB345_346.out; have hnc8 := NB346_345.out; obtain ⟨C9_0, C9_1, C9_2⟩ := zc3_ BK345.out; obtain ⟨F9_0, F9_1, F9_2⟩ := zf3_ BK345.out; obtain ⟨C10_0, C10_1, C10_2⟩ := zc3_ BK346.out; obtain ⟨F10_0, F10_1, F10_2⟩ := zf3_ BK346.out) | ((with_reducible refine gate_callee (f := 35) rfl ?_); refine gl_ (some 10) rfl Try.func35 #[.agg #[.bool a0_0, .int .i64 a0_1, .string a0_2], .agg #[.bool a2_0, .int .i64 a2_1, .string a2_2]] ?_; (with_reducible refine (firkinref09_Order.calls k a0_0 a0_1 a0_2 a2_0 a2_1 a2_2 t347 _ A4.out).mono ?_); rintro e w11 ⟨rfl, hb⟩; refine ⟨_, rfl, ?_⟩;  replace BK345 := bk_ BK345 hb; replace BK346 := bk_ BK346 hb; replace HB := bs_ HB hb; (try clear hb)))
  go_ret
  exact en_ HB
end Go.Proofs.Ytdedmhmomoejkaa.X
