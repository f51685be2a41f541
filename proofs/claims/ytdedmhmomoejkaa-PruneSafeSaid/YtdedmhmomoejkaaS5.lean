/- Words and walks for X.pruneSafe_holds, part 5 of the texts that a program of this session laid together. -/
import Derived.Test.YtdedmhmomoejkaaS1
import Derived.Test.YtdedmhmomoejkaaS3
import Derived.Test.YtdedmhmomoejkaaS4
namespace Go.Proofs.Ytdedmhmomoejkaa.X
open Go.RowKit Go.Proofs.YtdedmhmomoejkaaW.PrintWords Go.Proofs.YtdedmhmomoejkaaW.PrintLast Go.Proofs.YtdedmhmomoejkaaW.PrintMore
attribute [local go_sem] max2_int max_two
set_option linter.unusedVariables false
set_option linter.unusedSimpArgs false
mutual
def Av.l0 : Nat → List (S27) → Int → Int → List (S64) → List (S33) → Bool → Bool → Bool → Option (Bool × Bool × Bool)
 | 0, _, _, _, _, _, _, _, _ => none
 | k + 1, x26, x27, x28, x184000, x184001, x194000, x194001, x194002 => if x28 < x27 then (if 0 ≤ x28 then (if x28 < (x26.length : Int) then ((Av.f k x184000 x184001 ((Al x26 x28).f0) ((Al x26 x28).f1) ((Al x26 x28).f2) ((Al x26 x28).f3.f0) ((Al x26 x28).f3.f1) ((Al x26 x28).f3.f2) ((Al x26 x28).f4) ((Al x26 x28).f5) ((Al x26 x28).f6)).bind fun bt196 => ((Co.f x194000 x194001 x194002 bt196.1 bt196.2.1 bt196.2.2).bind fun bt199 => (Av.l0 k x26 x27 (wrap64 (x28 + 1)) x184000 x184001 bt199.1 bt199.2.1 bt199.2.2))) else (none)) else (none)) else (some (x194000, x194001, x194002))
def Av.l1 : Nat → List (S27) → Int → Int → List (S64) → List (S33) → Bool → Bool → Bool → Option (Bool × Bool × Bool)
 | 0, _, _, _, _, _, _, _, _ => none
 | k + 1, x43, x44, x45, x184000, x184001, x203000, x203001, x203002 => if x45 < x44 then (if 0 ≤ x45 then (if x45 < (x43.length : Int) then ((Av.f k x184000 x184001 ((Al x43 x45).f0) ((Al x43 x45).f1) ((Al x43 x45).f2) ((Al x43 x45).f3.f0) ((Al x43 x45).f3.f1) ((Al x43 x45).f3.f2) ((Al x43 x45).f4) ((Al x43 x45).f5) ((Al x43 x45).f6)).bind fun bt205 => ((Cl.f bt205.1 bt205.2.1 bt205.2.2).bind fun bt208 => ((Co.f x203000 x203001 x203002 bt208.1 bt208.2.1 bt208.2.2).bind fun bt211 => (Av.l1 k x43 x44 (wrap64 (x45 + 1)) x184000 x184001 bt211.1 bt211.2.1 bt211.2.2)))) else (none)) else (none)) else ((Cl.f x203000 x203001 x203002).bind fun bt214 => (some (bt214.1, bt214.2.1, bt214.2.2)))
def Av.f : Nat → List (S64) → List (S33) → Int → ByteArray → Int → Bool → Int → ByteArray → Int → ByteArray → List (S27) → Option (Bool × Bool × Bool)
 | 0, _, _, _, _, _, _, _, _, _, _, _ => none
 | k + 1, l0_0, l0_1, a1_0, a1_1, a1_2, a1_3, a1_4, a1_5, a1_6, a1_7, l1_8 => if a1_0 = 5 then (if 0 < (l1_8.length : Int) then ((Av.f k l0_0 l0_1 ((Al l1_8 0).f0) ((Al l1_8 0).f1) ((Al l1_8 0).f2) ((Al l1_8 0).f3.f0) ((Al l1_8 0).f3.f1) ((Al l1_8 0).f3.f2) ((Al l1_8 0).f4) ((Al l1_8 0).f5) ((Al l1_8 0).f6)).bind fun bt187 => ((Cl.f bt187.1 bt187.2.1 bt187.2.2).bind fun bt190 => (some (bt190.1, bt190.2.1, bt190.2.2)))) else (none)) else (if a1_0 = 6 then (Av.l0 k l1_8 (l1_8.length : Int) 0 l0_0 l0_1 true false false) else (if a1_0 = 7 then (Av.l1 k l1_8 (l1_8.length : Int) 0 l0_0 l0_1 true false false) else ((Bh.f k l0_0 l0_1 a1_0 a1_1 a1_2 a1_3 a1_4 a1_5 a1_6 a1_7 l1_8).bind fun bt217 => (some (bt217.1, bt217.2.1, bt217.2.2)))))
end
theorem Av.mono_l : ∀ k, (∀ y0 y1 y2 y3 y4 y5 y6 y7 y8 y9 y10, LeO (Av.f k y0 y1 y2 y3 y4 y5 y6 y7 y8 y9 y10) (Av.f (k + 1) y0 y1 y2 y3 y4 y5 y6 y7 y8 y9 y10)) ∧ (∀ y0 y1 y2 y3 y4 y5 y6 y7, LeO (Av.l0 k y0 y1 y2 y3 y4 y5 y6 y7) (Av.l0 (k + 1) y0 y1 y2 y3 y4 y5 y6 y7)) ∧ (∀ y0 y1 y2 y3 y4 y5 y6 y7, LeO (Av.l1 k y0 y1 y2 y3 y4 y5 y6 y7) (Av.l1 (k + 1) y0 y1 y2 y3 y4 y5 y6 y7))
 | 0 => ⟨fun _ _ _ _ _ _ _ _ _ _ _ r h => by simp [Av.f] at h, fun _ _ _ _ _ _ _ _ r h => by simp [Av.l0] at h, fun _ _ _ _ _ _ _ _ r h => by simp [Av.l1] at h⟩
 | k + 1 => by
  obtain ⟨ih0, ih1, ih2⟩ := Av.mono_l k
  refine ⟨?_, ?_, ?_⟩
  focus intro y0 y1 y2 y3 y4 y5 y6 y7 y8 y9 y10;unfold Av.f
  rotate_left
  focus intro y0 y1 y2 y3 y4 y5 y6 y7;unfold Av.l0
  rotate_left
  focus intro y0 y1 y2 y3 y4 y5 y6 y7;unfold Av.l1
  rotate_left
  all_goals repeat' first|(with_reducible first|exact ih0 _ _ _ _ _ _ _ _ _ _ _|exact ih1 _ _ _ _ _ _ _ _|exact ih2 _ _ _ _ _ _ _ _|exact Bh.mono _ _ _ _ _ _ _ _ _ _ _ _|exact LeO.refl _|exact LeO.none _|refine LeO.ite ?_ ?_|refine LeO.bind ?_ fun _=>?_)|exact ih0 _ _ _ _ _ _ _ _ _ _ _|exact ih1 _ _ _ _ _ _ _ _|exact ih2 _ _ _ _ _ _ _ _|exact Bh.mono _ _ _ _ _ _ _ _ _ _ _ _|exact LeO.none _|refine LeO.ite ?_ ?_|refine LeO.bind ?_ fun _=>?_
theorem Av.mono : ∀ a0 a1 a2 a3 a4 a5 a6 a7 a8 a9 a10 k, LeO (Av.f k a0 a1 a2 a3 a4 a5 a6 a7 a8 a9 a10) (Av.f (k + 1) a0 a1 a2 a3 a4 a5 a6 a7 a8 a9 a10) := by
 intro a0 a1 a2 a3 a4 a5 a6 a7 a8 a9 a10 k
 obtain ⟨ih0, ih1, ih2⟩ := Av.mono_l k
 exact ih0 a0 a1 a2 a3 a4 a5 a6 a7 a8 a9 a10
def Av.T3 : Bool × List (List Nat × List Nat) := (true, [([], []), ([], []), ([1], [1]), ([2], [2]), ([3], [3]), ([0, 4], [0, 4]), ([5, 5], [5]), ([6, 6, 0, 1, 2, 3, 4, 5, 6], [6])])
def Av.B3 : List Nat := [0, 0, 2, 6, 14, 31, 63, 127]
theorem Av.tab3 : rtab .any (opsOf Try.f29 3) = Av.T3 := by kernel_rfl
theorem Av.bits3 : waitsOk Av.T3.2 Av.B3 = true := by kernel_rfl
set_option maxHeartbeats 8000000 in
set_option maxRecDepth 100000 in
theorem Av.calls (k : Nat) : ∀ (A0_0 : Option Addr) (c0_0 : Nat) (l0_0 : List (S64)) (A0_1 : Option Addr) (c0_1 : Nat) (l0_1 : List (S33)) (a1_0 : Int) (a1_1 : ByteArray) (a1_2 : Int) (a1_3 : Bool) (a1_4 : Int) (a1_5 : ByteArray) (a1_6 : Int) (a1_7 : ByteArray) (A1_8 : Option Addr) (c1_8 : Nat) (l1_8 : List (S27)) (r1 : Bool) (r2 : Bool) (r3 : Bool) (w : World) (hr0_0 : Kd.C k64 w A0_0 l0_0.length l0_0) (hc0_0 : l0_0.length ≤ c0_0) (hr0_1 : Kd.C k33 w A0_1 l0_1.length l0_1) (hc0_1 : l0_1.length ≤ c0_1) (hr1_8 : Kd.C k27 w A1_8 l1_8.length l1_8) (hc1_8 : l1_8.length ≤ c1_8) (h : Av.f k l0_0 l0_1 a1_0 a1_1 a1_2 a1_3 a1_4 a1_5 a1_6 a1_7 l1_8 = some (r1, r2, r3)),
  Calls Try.prog 29 #[.agg #[.slice A0_0 l0_0.length c0_0, .slice A0_1 l0_1.length c0_1], .agg #[.int .i64 a1_0, .string a1_1, .int .i64 a1_2, .bool a1_3, .int .i64 a1_4, .string a1_5, .int .i64 a1_6, .string a1_7, .slice A1_8 l1_8.length c1_8]] w fun e w' => e = .returned (.agg #[.bool r1, .bool r2, .bool r3]) ∧ Below w.heap.size w w' := by
 induction k using Nat.strongRecOn with
 | _ k ih =>
 intro A0_0 c0_0 l0_0 A0_1 c0_1 l0_1 a1_0 a1_1 a1_2 a1_3 a1_4 a1_5 a1_6 a1_7 A1_8 c1_8 l1_8 r1 r2 r3 w hr0_0 hc0_0 hr0_1 hc0_1 hr1_8 hc1_8 h
 cases k with
 | zero => exact absurd h (by simp [Av.f])
 | succ k =>
 simp only [Av.f] at h
 have hu68 := Try.underlying68
 have hu27 := Try.underlying27
 have hu35 := Try.underlying35
 have HR0_0 := Aa.mk hr0_0
 have HC0_0 := Aa.mk hc0_0
 clear hr0_0 hc0_0
 have HR0_1 := Aa.mk hr0_1
 have HC0_1 := Aa.mk hc0_1
 clear hr0_1 hc0_1
 have HR1_8 := Aa.mk hr1_8
 have HC1_8 := Aa.mk hc1_8
 clear hr1_8 hc1_8
 have HB := Aa.mk (Below.refl w.heap.size w)
 have H : (if a1_0 = 5 then (if 0 < (l1_8.length : Int) then ((Av.f k l0_0 l0_1 ((Al l1_8 0).f0) ((Al l1_8 0).f1) ((Al l1_8 0).f2) ((Al l1_8 0).f3.f0) ((Al l1_8 0).f3.f1) ((Al l1_8 0).f3.f2) ((Al l1_8 0).f4) ((Al l1_8 0).f5) ((Al l1_8 0).f6)).bind fun bt187 => ((Cl.f bt187.1 bt187.2.1 bt187.2.2).bind fun bt190 => (some (bt190.1, bt190.2.1, bt190.2.2)))) else (none)) else (if a1_0 = 6 then (Av.l0 k l1_8 (l1_8.length : Int) 0 l0_0 l0_1 true false false) else (if a1_0 = 7 then (Av.l1 k l1_8 (l1_8.length : Int) 0 l0_0 l0_1 true false false) else ((Bh.f k l0_0 l0_1 a1_0 a1_1 a1_2 a1_3 a1_4 a1_5 a1_6 a1_7 l1_8).bind fun bt217 => (some (bt217.1, bt217.2.1, bt217.2.2)))))) = some (r1, r2, r3) := h
 clear h
 by_cases c3 : a1_0 = 5
 ·(
 rw [if_pos c3] at H
 have c3b0 : (a1_0 == 5) = true := Dl c3
 have c3b1 : (a1_0 != 5) = false := Dk c3
 clear c3
 by_cases c4 : 0 < (l1_8.length : Int)
 ·(
 rw [if_pos c4] at H
 have c4b0 : decide (0 < (l1_8.length : Int)) = true := decide_eq_true c4
 have c4b1 : decide (0 < l1_8.length) = true := decide_eq_true (by omega)
 clear c4
 replace H := Dn H
 obtain ⟨⟨t187, t188, t189⟩, A50, H⟩ := H
 replace H : ((Cl.f t187 t188 t189).bind fun bt190 => (some (bt190.1, bt190.2.1, bt190.2.2))) = some (r1, r2, r3) := H
 have A5 := Aa.mk A50
 clear A50
 replace H := Dn H
 obtain ⟨⟨t190, t191, t192⟩, A60, H⟩ := H
 replace H : (some (t190, t191, t192)) = some (r1, r2, r3) := H
 have A6 := Aa.mk A60
 clear A60
 simp only [Option.some.injEq, Prod.mk.injEq] at H
 obtain ⟨rfl, rfl, rfl⟩ := H
 go_enter Try.func29, Try.ntmps29
 try go_wp2_with (first | (refine bx_ (N := 2) (cs := #[.slice A0_0 l0_0.length c0_0, .slice A0_1 l0_1.length c0_1]) (t := 68) ?_; intro gb183 hg w7 hbox hb; have BK183 := Aa.mk (hbox); have GW183 := ge_ HB hg; have GE183 := ge_ HB hg; replace HB := bs_ HB hb; clear hb hbox hg) | (refine bx_ (N := 3) (cs := #[.int .i64 a1_0, .string a1_1, .int .i64 a1_2, .bool a1_3, .int .i64 a1_4, .string a1_5, .int .i64 a1_6, .string a1_7, .slice A1_8 l1_8.length c1_8]) (t := 27) ?_; intro gb184 hg w8 hbox hb; have BK184 := Aa.mk (hbox); have GW184 := ge_ HB hg; have GE184 := ge_ HB hg; have NB183_184 := lt_ BK183 hg; have NB184_183 := gt_ BK183 hg; replace BK183 := bk_ BK183 hb; replace HB := bs_ HB hb; clear hb hbox hg) | (refine bx_ (N := 4) (cs := #[.bool false, .bool false, .bool false]) (t := 35) ?_; intro gb185 hg w9 hbox hb; have BK185 := Aa.mk (hbox); have GW185 := ge_ HB hg; have GE185 := ge_ HB hg; have NB183_185 := lt_ BK183 hg; have NB185_183 := gt_ BK183 hg; have NB184_185 := lt_ BK184 hg; have NB185_184 := gt_ BK184 hg; replace BK183 := bk_ BK183 hb; replace BK184 := bk_ BK184 hb; replace HB := bs_ HB hb; clear hb hbox hg; have hnb10 := NB184_183.out; have hnc10 := NB183_184.out; have hnb11 := NB184_185.out; have hnc11 := NB185_184.out; obtain ⟨C12_0, C12_1, C12_2, C12_3, C12_4, C12_5, C12_6, C12_7, C12_8⟩ := zc9_ BK184.out; obtain ⟨F12_0, F12_1, F12_2, F12_3, F12_4, F12_5, F12_6, F12_7, F12_8⟩ := zf9_ BK184.out))
 replace BK183 := Aa.mk (Af BK183.out); replace BK184 := Aa.mk (Af BK184.out); replace BK185 := Aa.mk (Af BK185.out); replace HB := Aa.mk (Aj HB.out)
 have p186 : 0 ≤ (0 : Int) := (by omega)
 have q186 : 0 < (l1_8.length : Int) := dt_
 obtain ⟨ad186, A186_8, c186_8, e186, hx186_0, hx186_1, hx186_2, hx186_3, hx186_4, hx186_5, hx186_6, hx186_7, hx186_8, hl186_8, hi186_8⟩ := at_T27 HR1_8.out 0 p186 q186
 have hw186_8 := hx186_8
 (try rw [show ((0 : Int)).toNat = 0 from rfl] at hw186_8)
 (try rw [show 0 * 9 = 0 from rfl] at hw186_8)
 (try rw [Addr.add_zero'] at hw186_8)
 have hw186_7 := hx186_7
 (try rw [show ((0 : Int)).toNat = 0 from rfl] at hw186_7)
 (try rw [show 0 * 9 = 0 from rfl] at hw186_7)
 (try rw [Addr.add_zero'] at hw186_7)
 have hw186_6 := hx186_6
 (try rw [show ((0 : Int)).toNat = 0 from rfl] at hw186_6)
 (try rw [show 0 * 9 = 0 from rfl] at hw186_6)
 (try rw [Addr.add_zero'] at hw186_6)
 have hw186_5 := hx186_5
 (try rw [show ((0 : Int)).toNat = 0 from rfl] at hw186_5)
 (try rw [show 0 * 9 = 0 from rfl] at hw186_5)
 (try rw [Addr.add_zero'] at hw186_5)
 have hw186_4 := hx186_4
 (try rw [show ((0 : Int)).toNat = 0 from rfl] at hw186_4)
 (try rw [show 0 * 9 = 0 from rfl] at hw186_4)
 (try rw [Addr.add_zero'] at hw186_4)
 have hw186_3 := hx186_3
 (try rw [show ((0 : Int)).toNat = 0 from rfl] at hw186_3)
 (try rw [show 0 * 9 = 0 from rfl] at hw186_3)
 (try rw [Addr.add_zero'] at hw186_3)
 have hw186_2 := hx186_2
 (try rw [show ((0 : Int)).toNat = 0 from rfl] at hw186_2)
 (try rw [show 0 * 9 = 0 from rfl] at hw186_2)
 (try rw [Addr.add_zero'] at hw186_2)
 have hw186_1 := hx186_1
 (try rw [show ((0 : Int)).toNat = 0 from rfl] at hw186_1)
 (try rw [show 0 * 9 = 0 from rfl] at hw186_1)
 (try rw [Addr.add_zero'] at hw186_1)
 have hw186_0 := hx186_0
 (try rw [show ((0 : Int)).toNat = 0 from rfl] at hw186_0)
 (try rw [show 0 * 9 = 0 from rfl] at hw186_0)
 (try rw [Addr.add_zero'] at hw186_0)
 cases e186
 have qi186 : (0 < l1_8.length) = True := eq_true (by omega)
 (try rw [show ((0 : Int)).toNat = 0 from rfl] at hx186_0)
 (try rw [show 0 * 9 = 0 from rfl] at hx186_0)
 (try rw [Addr.add_zero'] at hx186_0)
 (try rw [show ((0 : Int)).toNat = 0 from rfl] at hx186_1)
 (try rw [show 0 * 9 = 0 from rfl] at hx186_1)
 (try rw [Addr.add_zero'] at hx186_1)
 (try rw [show ((0 : Int)).toNat = 0 from rfl] at hx186_2)
 (try rw [show 0 * 9 = 0 from rfl] at hx186_2)
 (try rw [Addr.add_zero'] at hx186_2)
 (try rw [show ((0 : Int)).toNat = 0 from rfl] at hx186_3)
 (try rw [show 0 * 9 = 0 from rfl] at hx186_3)
 (try rw [Addr.add_zero'] at hx186_3)
 (try rw [show ((0 : Int)).toNat = 0 from rfl] at hx186_4)
 (try rw [show 0 * 9 = 0 from rfl] at hx186_4)
 (try rw [Addr.add_zero'] at hx186_4)
 (try rw [show ((0 : Int)).toNat = 0 from rfl] at hx186_5)
 (try rw [show 0 * 9 = 0 from rfl] at hx186_5)
 (try rw [Addr.add_zero'] at hx186_5)
 (try rw [show ((0 : Int)).toNat = 0 from rfl] at hx186_6)
 (try rw [show 0 * 9 = 0 from rfl] at hx186_6)
 (try rw [Addr.add_zero'] at hx186_6)
 (try rw [show ((0 : Int)).toNat = 0 from rfl] at hx186_7)
 (try rw [show 0 * 9 = 0 from rfl] at hx186_7)
 (try rw [Addr.add_zero'] at hx186_7)
 (try rw [show ((0 : Int)).toNat = 0 from rfl] at hx186_8)
 (try rw [show 0 * 9 = 0 from rfl] at hx186_8)
 (try rw [Addr.add_zero'] at hx186_8)
 replace hx186_0 := hc_ HB hx186_0
 replace hx186_1 := hc_ HB hx186_1
 replace hx186_2 := hc_ HB hx186_2
 replace hx186_3 := hc_ HB hx186_3
 replace hx186_4 := hc_ HB hx186_4
 replace hx186_5 := hc_ HB hx186_5
 replace hx186_6 := hc_ HB hx186_6
 replace hx186_7 := hc_ HB hx186_7
 replace hx186_8 := hc_ HB hx186_8
 have HR186_8 := Aa.mk hi186_8
 have HC186_8 := Aa.mk hl186_8
 clear hi186_8 hl186_8
 replace p186 := eq_true p186
 replace q186 := eq_true q186
 refine start_ (n := 8) (S := fun w' => w'.cell? ⟨gb183, 0, none⟩ = some (.slice A0_0 l0_0.length c0_0) ∧ w'.cell? ⟨gb183, 1, none⟩ = some (.slice A0_1 l0_1.length c0_1) ∧ w'.cell? ⟨gb184, 0, none⟩ = some (.int .i64 a1_0) ∧ w'.cell? ⟨gb184, 1, none⟩ = some (.string a1_1) ∧ w'.cell? ⟨gb184, 2, none⟩ = some (.int .i64 a1_2) ∧ w'.cell? ⟨gb184, 3, none⟩ = some (.bool a1_3) ∧ w'.cell? ⟨gb184, 4, none⟩ = some (.int .i64 a1_4) ∧ w'.cell? ⟨gb184, 5, none⟩ = some (.string a1_5) ∧ w'.cell? ⟨gb184, 6, none⟩ = some (.int .i64 a1_6) ∧ w'.cell? ⟨gb184, 7, none⟩ = some (.string a1_7) ∧ w'.cell? ⟨gb184, 8, none⟩ = some (.slice (some ad186) l1_8.length c1_8) ∧ w'.cell? ad186 = some (.int .i64 ((Al l1_8 0).f0)) ∧ w'.cell? ⟨ad186.block, ad186.off + 1, none⟩ = some (.string ((Al l1_8 0).f1)) ∧ w'.cell? ⟨ad186.block, ad186.off + 2, none⟩ = some (.int .i64 ((Al l1_8 0).f2)) ∧ w'.cell? ⟨ad186.block, ad186.off + 3, none⟩ = some (.bool ((Al l1_8 0).f3.f0)) ∧ w'.cell? ⟨ad186.block, ad186.off + 4, none⟩ = some (.int .i64 ((Al l1_8 0).f3.f1)) ∧ w'.cell? ⟨ad186.block, ad186.off + 5, none⟩ = some (.string ((Al l1_8 0).f3.f2)) ∧ w'.cell? ⟨ad186.block, ad186.off + 6, none⟩ = some (.int .i64 ((Al l1_8 0).f4)) ∧ w'.cell? ⟨ad186.block, ad186.off + 7, none⟩ = some (.string ((Al l1_8 0).f5)) ∧ w'.cell? ⟨ad186.block, ad186.off + 8, none⟩ = some (.slice A186_8 ((Al l1_8 0).f6).length c186_8)) (ds := []) #[false, false, false, false, false, false, false, false] (by kernel_rfl) rfl rfl ⟨(Ab BK183.out 0).trans rfl, (Ab BK183.out 1).trans rfl, (Ab BK184.out 0).trans rfl, (Ab BK184.out 1).trans rfl, (Ab BK184.out 2).trans rfl, (Ab BK184.out 3).trans rfl, (Ab BK184.out 4).trans rfl, (Ab BK184.out 5).trans rfl, (Ab BK184.out 6).trans rfl, (Ab BK184.out 7).trans rfl, (Ab BK184.out 8).trans rfl, ((HB.out.cell (World.block_lt_of_cell? w _ hw186_0)).trans hw186_0), ((HB.out.cell (World.block_lt_of_cell? w _ hw186_1)).trans hw186_1), ((HB.out.cell (World.block_lt_of_cell? w _ hw186_2)).trans hw186_2), ((HB.out.cell (World.block_lt_of_cell? w _ hw186_3)).trans hw186_3), ((HB.out.cell (World.block_lt_of_cell? w _ hw186_4)).trans hw186_4), ((HB.out.cell (World.block_lt_of_cell? w _ hw186_5)).trans hw186_5), ((HB.out.cell (World.block_lt_of_cell? w _ hw186_6)).trans hw186_6), ((HB.out.cell (World.block_lt_of_cell? w _ hw186_7)).trans hw186_7), ((HB.out.cell (World.block_lt_of_cell? w _ hw186_8)).trans hw186_8)⟩ (fun hHeld => ?_); refine with_tabW Av.tab3 Av.bits3 (fun HT_ HW_ => ?_)
 generalize w9.drew = w13 at BK183 BK184 BK185 HB HR186_8 hx186_0 hx186_1 hx186_2 hx186_3 hx186_4 hx186_5 hx186_6 hx186_7 hx186_8 hHeld ⊢
 refine pu_ 1 (some 16) (bl_ 8 2) ?_
 refine ta_ 0 (some 15) (bl_ 8 3) hHeld ?_
 refine ta_ 2 (some 17) (bl_ 8 7) hHeld ?_
 refine pu_ 3 (some 18) (bl_ 8 15) ?_
 refine ta_ 4 (some 19) (bl_ 8 31) hHeld ?_
 refine one_ (i := 5) (N := some 20) #[true, true, true, true, true, true, false, false] rfl rfl (one_of HT_.out (by kernel_rfl)) (by decide) (fun K hK => ?_)
 refine gs_ Try.func29 #[.agg #[.slice A0_0 l0_0.length c0_0, .slice A0_1 l0_1.length c0_1], .agg #[.int .i64 ((Al l1_8 0).f0), .string ((Al l1_8 0).f1), .int .i64 ((Al l1_8 0).f2), .bool ((Al l1_8 0).f3.f0), .int .i64 ((Al l1_8 0).f3.f1), .string ((Al l1_8 0).f3.f2), .int .i64 ((Al l1_8 0).f4), .string ((Al l1_8 0).f5), .slice A186_8 ((Al l1_8 0).f6).length c186_8]] ?_
 with_reducible refine (ih k (by omega) _ _ l0_0 _ _ l0_1 ((Al l1_8 0).f0) ((Al l1_8 0).f1) ((Al l1_8 0).f2) ((Al l1_8 0).f3.f0) ((Al l1_8 0).f3.f1) ((Al l1_8 0).f3.f2) ((Al l1_8 0).f4) ((Al l1_8 0).f5) _ _ ((Al l1_8 0).f6) t187 t188 t189 _ ?side1 ?side2 ?side3 ?side4 ?side5 ?side6 A5.out).mono ?_
 (case side1 => repeat (first | exact (Kd.C_below HR0_0.out HB.out) | (with_reducible refine Kd.C_alloc ?_ _) | (with_reducible refine Kd.C_drewN ?_ _) | (with_reducible refine Kd.C_drew ?_)))
 (case side2 => exact HC0_0.out)
 (case side3 => repeat (first | exact (Kd.C_below HR0_1.out HB.out) | (with_reducible refine Kd.C_alloc ?_ _) | (with_reducible refine Kd.C_drewN ?_ _) | (with_reducible refine Kd.C_drew ?_)))
 (case side4 => exact HC0_1.out)
 (case side5 => repeat (first | exact (Kd.C_below HR186_8.out HB.out) | (with_reducible refine Kd.C_alloc ?_ _) | (with_reducible refine Kd.C_drewN ?_ _) | (with_reducible refine Kd.C_drew ?_)))
 (case side6 => exact HC186_8.out)
 rintro e w14 ⟨rfl, hb⟩
 refine ⟨_, rfl, ?_⟩
 replace BK183 := bk_ BK183 hb; replace BK184 := bk_ BK184 hb; replace BK185 := bk_ BK185 hb; replace HB := bs_ HB hb
 (try clear hb)
 refine hK.out _ _ ⟨(Ab BK183.out 0).trans rfl, (Ab BK183.out 1).trans rfl, (Ab BK184.out 0).trans rfl, (Ab BK184.out 1).trans rfl, (Ab BK184.out 2).trans rfl, (Ab BK184.out 3).trans rfl, (Ab BK184.out 4).trans rfl, (Ab BK184.out 5).trans rfl, (Ab BK184.out 6).trans rfl, (Ab BK184.out 7).trans rfl, (Ab BK184.out 8).trans rfl, ((HB.out.cell (World.block_lt_of_cell? w _ hw186_0)).trans hw186_0), ((HB.out.cell (World.block_lt_of_cell? w _ hw186_1)).trans hw186_1), ((HB.out.cell (World.block_lt_of_cell? w _ hw186_2)).trans hw186_2), ((HB.out.cell (World.block_lt_of_cell? w _ hw186_3)).trans hw186_3), ((HB.out.cell (World.block_lt_of_cell? w _ hw186_4)).trans hw186_4), ((HB.out.cell (World.block_lt_of_cell? w _ hw186_5)).trans hw186_5), ((HB.out.cell (World.block_lt_of_cell? w _ hw186_6)).trans hw186_6), ((HB.out.cell (World.block_lt_of_cell? w _ hw186_7)).trans hw186_7), ((HB.out.cell (World.block_lt_of_cell? w _ hw186_8)).trans hw186_8)⟩ (fun hHeld => ?_)
 clear hK K
 refine norm_ (a' := ?_) ?_ ?_
 rotate_left
 ·(
 show Act.put _ (some 20) _ = _
 simp only [Act.put, List.setIfInBounds_toArray, List.set_cons_zero, List.set_cons_succ, i64_w, i32_w]
 rfl)
 refine one_ (i := 6) (N := some 21) #[true, true, true, true, true, true, true, false] rfl rfl (one_of HT_.out (by kernel_rfl)) (by decide) (fun K hK => ?_)
 refine gs_ Try.func51 #[.agg #[.bool t187, .bool t188, .bool t189]] ?_
 with_reducible refine (Cl.calls t187 t188 t189 t190 t191 t192 _ A6.out).mono ?_
 rintro e w15 ⟨rfl, hb⟩
 refine ⟨_, rfl, ?_⟩
 replace BK183 := bk_ BK183 hb; replace BK184 := bk_ BK184 hb; replace BK185 := bk_ BK185 hb; replace HB := bs_ HB hb
 (try clear hb)
 refine hK.out _ _ ⟨(Ab BK183.out 0).trans rfl, (Ab BK183.out 1).trans rfl, (Ab BK184.out 0).trans rfl, (Ab BK184.out 1).trans rfl, (Ab BK184.out 2).trans rfl, (Ab BK184.out 3).trans rfl, (Ab BK184.out 4).trans rfl, (Ab BK184.out 5).trans rfl, (Ab BK184.out 6).trans rfl, (Ab BK184.out 7).trans rfl, (Ab BK184.out 8).trans rfl, ((HB.out.cell (World.block_lt_of_cell? w _ hw186_0)).trans hw186_0), ((HB.out.cell (World.block_lt_of_cell? w _ hw186_1)).trans hw186_1), ((HB.out.cell (World.block_lt_of_cell? w _ hw186_2)).trans hw186_2), ((HB.out.cell (World.block_lt_of_cell? w _ hw186_3)).trans hw186_3), ((HB.out.cell (World.block_lt_of_cell? w _ hw186_4)).trans hw186_4), ((HB.out.cell (World.block_lt_of_cell? w _ hw186_5)).trans hw186_5), ((HB.out.cell (World.block_lt_of_cell? w _ hw186_6)).trans hw186_6), ((HB.out.cell (World.block_lt_of_cell? w _ hw186_7)).trans hw186_7), ((HB.out.cell (World.block_lt_of_cell? w _ hw186_8)).trans hw186_8)⟩ (fun hHeld => ?_)
 clear hK K
 refine norm_ (a' := ?_) ?_ ?_
 rotate_left
 ·(
 show Act.put _ (some 21) _ = _
 simp only [Act.put, List.setIfInBounds_toArray, List.set_cons_zero, List.set_cons_succ, i64_w, i32_w]
 rfl)
 refine one_ (i := 7) (N := none) #[true, true, true, true, true, true, true, true] rfl rfl (one_of HT_.out (by kernel_rfl)) (by decide) (fun K hK => ?_)
 have hs16 : w15.cell? ⟨gb185, 0, none⟩ = some (.bool false) := (Ab BK185.out 0).trans rfl
 have hfs16 := Bm BK185.out 0
 have hns16_0 := NB183_185.out
 have hns16_1 := NB184_185.out
 have hms16_0 := NB185_183.out
 have hms16_1 := NB185_184.out
 have hs17 : w15.cell? ⟨gb185, 1, none⟩ = some (.bool false) := (Ab BK185.out 1).trans rfl
 have hfs17 := Bm BK185.out 1
 have hns17_0 := NB183_185.out
 have hns17_1 := NB184_185.out
 have hms17_0 := NB185_183.out
 have hms17_1 := NB185_184.out
 have hs18 : w15.cell? ⟨gb185, 2, none⟩ = some (.bool false) := (Ab BK185.out 2).trans rfl
 have hfs18 := Bm BK185.out 2
 have hns18_0 := NB183_185.out
 have hns18_1 := NB184_185.out
 have hms18_0 := NB185_183.out
 have hms18_1 := NB185_184.out
 refine skip_ (w1 := ?_) (by rfl) rfl ?_ ?_
 rotate_left
 ·(
 go_simp
 rfl)
 refine hK.out _ _ ⟨(cf3_ NB183_185 (hHeld.1)), (cf3_ NB183_185 (hHeld.2.1)), (cf3_ NB184_185 (hHeld.2.2.1)), (cf3_ NB184_185 (hHeld.2.2.2.1)), (cf3_ NB184_185 (hHeld.2.2.2.2.1)), (cf3_ NB184_185 (hHeld.2.2.2.2.2.1)), (cf3_ NB184_185 (hHeld.2.2.2.2.2.2.1)), (cf3_ NB184_185 (hHeld.2.2.2.2.2.2.2.1)), (cf3_ NB184_185 (hHeld.2.2.2.2.2.2.2.2.1)), (cf3_ NB184_185 (hHeld.2.2.2.2.2.2.2.2.2.1)), (cf3_ NB184_185 (hHeld.2.2.2.2.2.2.2.2.2.2.1)), (cf3_ ⟨(by first | exact Nat.ne_of_lt (Nat.lt_of_lt_of_le (by have := World.block_lt_of_cell? _ _ hw186_0; first | rwa [add_block] at this | exact this) GW185.out) | (rw [add_block]; exact Nat.ne_of_lt (Nat.lt_of_lt_of_le (by have := World.block_lt_of_cell? _ _ hw186_0; first | rwa [add_block] at this | exact this) GW185.out)) | (show (Addr.add _ _).block ≠ _; rw [add_block]; exact Nat.ne_of_lt (Nat.lt_of_lt_of_le (by have := World.block_lt_of_cell? _ _ hw186_0; first | rwa [add_block] at this | exact this) GW185.out)) | (dsimp only; exact Nat.ne_of_lt (Nat.lt_of_lt_of_le (by have := World.block_lt_of_cell? _ _ hw186_0; first | rwa [add_block] at this | exact this) GW185.out)))⟩ (hHeld.2.2.2.2.2.2.2.2.2.2.2.1)), (cf3_ ⟨(by first | exact Nat.ne_of_lt (Nat.lt_of_lt_of_le (by have := World.block_lt_of_cell? _ _ hw186_1; first | rwa [add_block] at this | exact this) GW185.out) | (rw [add_block]; exact Nat.ne_of_lt (Nat.lt_of_lt_of_le (by have := World.block_lt_of_cell? _ _ hw186_1; first | rwa [add_block] at this | exact this) GW185.out)) | (show (Addr.add _ _).block ≠ _; rw [add_block]; exact Nat.ne_of_lt (Nat.lt_of_lt_of_le (by have := World.block_lt_of_cell? _ _ hw186_1; first | rwa [add_block] at this | exact this) GW185.out)) | (dsimp only; exact Nat.ne_of_lt (Nat.lt_of_lt_of_le (by have := World.block_lt_of_cell? _ _ hw186_1; first | rwa [add_block] at this | exact this) GW185.out)))⟩ (hHeld.2.2.2.2.2.2.2.2.2.2.2.2.1)), (cf3_ ⟨(by first | exact Nat.ne_of_lt (Nat.lt_of_lt_of_le (by have := World.block_lt_of_cell? _ _ hw186_2; first | rwa [add_block] at this | exact this) GW185.out) | (rw [add_block]; exact Nat.ne_of_lt (Nat.lt_of_lt_of_le (by have := World.block_lt_of_cell? _ _ hw186_2; first | rwa [add_block] at this | exact this) GW185.out)) | (show (Addr.add _ _).block ≠ _; rw [add_block]; exact Nat.ne_of_lt (Nat.lt_of_lt_of_le (by have := World.block_lt_of_cell? _ _ hw186_2; first | rwa [add_block] at this | exact this) GW185.out)) | (dsimp only; exact Nat.ne_of_lt (Nat.lt_of_lt_of_le (by have := World.block_lt_of_cell? _ _ hw186_2; first | rwa [add_block] at this | exact this) GW185.out)))⟩ (hHeld.2.2.2.2.2.2.2.2.2.2.2.2.2.1)), (cf3_ ⟨(by first | exact Nat.ne_of_lt (Nat.lt_of_lt_of_le (by have := World.block_lt_of_cell? _ _ hw186_3; first | rwa [add_block] at this | exact this) GW185.out) | (rw [add_block]; exact Nat.ne_of_lt (Nat.lt_of_lt_of_le (by have := World.block_lt_of_cell? _ _ hw186_3; first | rwa [add_block] at this | exact this) GW185.out)) | (show (Addr.add _ _).block ≠ _; rw [add_block]; exact Nat.ne_of_lt (Nat.lt_of_lt_of_le (by have := World.block_lt_of_cell? _ _ hw186_3; first | rwa [add_block] at this | exact this) GW185.out)) | (dsimp only; exact Nat.ne_of_lt (Nat.lt_of_lt_of_le (by have := World.block_lt_of_cell? _ _ hw186_3; first | rwa [add_block] at this | exact this) GW185.out)))⟩ (hHeld.2.2.2.2.2.2.2.2.2.2.2.2.2.2.1)), (cf3_ ⟨(by first | exact Nat.ne_of_lt (Nat.lt_of_lt_of_le (by have := World.block_lt_of_cell? _ _ hw186_4; first | rwa [add_block] at this | exact this) GW185.out) | (rw [add_block]; exact Nat.ne_of_lt (Nat.lt_of_lt_of_le (by have := World.block_lt_of_cell? _ _ hw186_4; first | rwa [add_block] at this | exact this) GW185.out)) | (show (Addr.add _ _).block ≠ _; rw [add_block]; exact Nat.ne_of_lt (Nat.lt_of_lt_of_le (by have := World.block_lt_of_cell? _ _ hw186_4; first | rwa [add_block] at this | exact this) GW185.out)) | (dsimp only; exact Nat.ne_of_lt (Nat.lt_of_lt_of_le (by have := World.block_lt_of_cell? _ _ hw186_4; first | rwa [add_block] at this | exact this) GW185.out)))⟩ (hHeld.2.2.2.2.2.2.2.2.2.2.2.2.2.2.2.1)), (cf3_ ⟨(by first | exact Nat.ne_of_lt (Nat.lt_of_lt_of_le (by have := World.block_lt_of_cell? _ _ hw186_5; first | rwa [add_block] at this | exact this) GW185.out) | (rw [add_block]; exact Nat.ne_of_lt (Nat.lt_of_lt_of_le (by have := World.block_lt_of_cell? _ _ hw186_5; first | rwa [add_block] at this | exact this) GW185.out)) | (show (Addr.add _ _).block ≠ _; rw [add_block]; exact Nat.ne_of_lt (Nat.lt_of_lt_of_le (by have := World.block_lt_of_cell? _ _ hw186_5; first | rwa [add_block] at this | exact this) GW185.out)) | (dsimp only; exact Nat.ne_of_lt (Nat.lt_of_lt_of_le (by have := World.block_lt_of_cell? _ _ hw186_5; first | rwa [add_block] at this | exact this) GW185.out)))⟩ (hHeld.2.2.2.2.2.2.2.2.2.2.2.2.2.2.2.2.1)), (cf3_ ⟨(by first | exact Nat.ne_of_lt (Nat.lt_of_lt_of_le (by have := World.block_lt_of_cell? _ _ hw186_6; first | rwa [add_block] at this | exact this) GW185.out) | (rw [add_block]; exact Nat.ne_of_lt (Nat.lt_of_lt_of_le (by have := World.block_lt_of_cell? _ _ hw186_6; first | rwa [add_block] at this | exact this) GW185.out)) | (show (Addr.add _ _).block ≠ _; rw [add_block]; exact Nat.ne_of_lt (Nat.lt_of_lt_of_le (by have := World.block_lt_of_cell? _ _ hw186_6; first | rwa [add_block] at this | exact this) GW185.out)) | (dsimp only; exact Nat.ne_of_lt (Nat.lt_of_lt_of_le (by have := World.block_lt_of_cell? _ _ hw186_6; first | rwa [add_block] at this | exact this) GW185.out)))⟩ (hHeld.2.2.2.2.2.2.2.2.2.2.2.2.2.2.2.2.2.1)), (cf3_ ⟨(by first | exact Nat.ne_of_lt (Nat.lt_of_lt_of_le (by have := World.block_lt_of_cell? _ _ hw186_7; first | rwa [add_block] at this | exact this) GW185.out) | (rw [add_block]; exact Nat.ne_of_lt (Nat.lt_of_lt_of_le (by have := World.block_lt_of_cell? _ _ hw186_7; first | rwa [add_block] at this | exact this) GW185.out)) | (show (Addr.add _ _).block ≠ _; rw [add_block]; exact Nat.ne_of_lt (Nat.lt_of_lt_of_le (by have := World.block_lt_of_cell? _ _ hw186_7; first | rwa [add_block] at this | exact this) GW185.out)) | (dsimp only; exact Nat.ne_of_lt (Nat.lt_of_lt_of_le (by have := World.block_lt_of_cell? _ _ hw186_7; first | rwa [add_block] at this | exact this) GW185.out)))⟩ (hHeld.2.2.2.2.2.2.2.2.2.2.2.2.2.2.2.2.2.2.1)), (cf3_ ⟨(by first | exact Nat.ne_of_lt (Nat.lt_of_lt_of_le (by have := World.block_lt_of_cell? _ _ hw186_8; first | rwa [add_block] at this | exact this) GW185.out) | (rw [add_block]; exact Nat.ne_of_lt (Nat.lt_of_lt_of_le (by have := World.block_lt_of_cell? _ _ hw186_8; first | rwa [add_block] at this | exact this) GW185.out)) | (show (Addr.add _ _).block ≠ _; rw [add_block]; exact Nat.ne_of_lt (Nat.lt_of_lt_of_le (by have := World.block_lt_of_cell? _ _ hw186_8; first | rwa [add_block] at this | exact this) GW185.out)) | (dsimp only; exact Nat.ne_of_lt (Nat.lt_of_lt_of_le (by have := World.block_lt_of_cell? _ _ hw186_8; first | rwa [add_block] at this | exact this) GW185.out)))⟩ (hHeld.2.2.2.2.2.2.2.2.2.2.2.2.2.2.2.2.2.2.2))⟩ (fun hHeld => ?_)
 clear hK K
 refine done_ (done_of HT_.out (by kernel_rfl)) ?_
 try go_wp2
 refine bodyPost_ret (results_cell_row rfl _ _ gb185 35 #[.bool t190, .bool t191, .bool t192] (0, 0) _ rfl (by (with_reducible repeat (first | refine Ag ?_ _ | refine Af ?_ | refine Ae ?_ _)); apply Cf; (with_reducible repeat (first | refine Ag ?_ _ | refine Af ?_ | refine Ae ?_ _)); exact BK185.out) Try.underlying35 rfl (by kernel_rfl)) rfl ?_
 exact en_ HB)
 ·(
 rw [if_neg c4] at H
 exact absurd H (by simp)))
 ·(
 rw [if_neg c3] at H
 have c3b0 : (a1_0 == 5) = false := Dj c3
 have c3b1 : (a1_0 != 5) = true := Dm c3
 by_cases c19 : a1_0 = 6
 ·(
 rw [if_pos c19] at H
 have c19b0 : (a1_0 == 6) = true := Dl c19
 have c19b1 : (a1_0 != 6) = false := Dk c19
 clear c19
 have H' := Aa.mk H
 clear H
 go_enter Try.func29, Try.ntmps29
 go_wp2_with (first | (refine bx_ (N := 2) (cs := #[.slice A0_0 l0_0.length c0_0, .slice A0_1 l0_1.length c0_1]) (t := 68) ?_; intro gb183 hg w20 hbox hb; have BK183 := Aa.mk (hbox); have GW183 := ge_ HB hg; have GE183 := ge_ HB hg; replace HB := bs_ HB hb; clear hb hbox hg) | (refine bx_ (N := 3) (cs := #[.int .i64 a1_0, .string a1_1, .int .i64 a1_2, .bool a1_3, .int .i64 a1_4, .string a1_5, .int .i64 a1_6, .string a1_7, .slice A1_8 l1_8.length c1_8]) (t := 27) ?_; intro gb184 hg w21 hbox hb; have BK184 := Aa.mk (hbox); have GW184 := ge_ HB hg; have GE184 := ge_ HB hg; have NB183_184 := lt_ BK183 hg; have NB184_183 := gt_ BK183 hg; replace BK183 := bk_ BK183 hb; replace HB := bs_ HB hb; clear hb hbox hg) | (refine bx_ (N := 4) (cs := #[.bool false, .bool false, .bool false]) (t := 35) ?_; intro gb185 hg w22 hbox hb; have BK185 := Aa.mk (hbox); have GW185 := ge_ HB hg; have GE185 := ge_ HB hg; have NB183_185 := lt_ BK183 hg; have NB185_183 := gt_ BK183 hg; have NB184_185 := lt_ BK184 hg; have NB185_184 := gt_ BK184 hg; replace BK183 := bk_ BK183 hb; replace BK184 := bk_ BK184 hb; replace HB := bs_ HB hb; clear hb hbox hg; have hnb23 := NB184_183.out; have hnc23 := NB183_184.out; have hnb24 := NB184_185.out; have hnc24 := NB185_184.out; obtain ⟨C25_0, C25_1, C25_2, C25_3, C25_4, C25_5, C25_6, C25_7, C25_8⟩ := zc9_ BK184.out; obtain ⟨F25_0, F25_1, F25_2, F25_3, F25_4, F25_5, F25_6, F25_7, F25_8⟩ := zf9_ BK184.out) | (refine bx_ (N := 5) (cs := #[.bool false, .bool false, .bool false]) (t := 35) ?_; intro gb193 hg w26 hbox hb; have BK193 := Aa.mk (hbox); have GW193 := ge_ HB hg; have GE193 := ge_ HB hg; have NB183_193 := lt_ BK183 hg; have NB193_183 := gt_ BK183 hg; have NB184_193 := lt_ BK184 hg; have NB193_184 := gt_ BK184 hg; have NB185_193 := lt_ BK185 hg; have NB193_185 := gt_ BK185 hg; replace BK183 := bk_ BK183 hb; replace BK184 := bk_ BK184 hb; replace BK185 := bk_ BK185 hb; replace HB := bs_ HB hb; clear hb hbox hg; have hnb27 := NB193_183.out; have hnc27 := NB183_193.out; have hnb28 := NB193_184.out; have hnc28 := NB184_193.out; have hnb29 := NB193_185.out; have hnc29 := NB185_193.out; obtain ⟨C30_0, C30_1, C30_2⟩ := zc3_ BK193.out; obtain ⟨F30_0, F30_1, F30_2⟩ := zf3_ BK193.out; obtain ⟨C31_0, C31_1, C31_2, C31_3, C31_4, C31_5, C31_6, C31_7, C31_8⟩ := zc9_ BK184.out; obtain ⟨F31_0, F31_1, F31_2, F31_3, F31_4, F31_5, F31_6, F31_7, F31_8⟩ := zf9_ BK184.out))
 go_loopg [28] k (fun kq v28 w' => ∃ (x28_1 : Int) (x194000_1 : Bool) (x194001_1 : Bool) (x194002_1 : Bool), v28 = .int .i64 x28_1 ∧ Aa (Av.l0 kq l1_8 (l1_8.length : Int) x28_1 l0_0 l0_1 x194000_1 x194001_1 x194002_1 = some (r1, r2, r3)) ∧ Aa (kq ≤ k) ∧ Aa (w'.heap[gb183]? = some (.cells #[(.slice A0_0 l0_0.length c0_0), (.slice A0_1 l0_1.length c0_1)] 68 (0, 0))) ∧ Aa (w'.heap[gb184]? = some (.cells #[.int .i64 a1_0, .string a1_1, .int .i64 a1_2, .bool a1_3, .int .i64 a1_4, .string a1_5, .int .i64 a1_6, .string a1_7, (.slice A1_8 l1_8.length c1_8)] 27 (0, 0))) ∧ Aa (w'.heap[gb185]? = some (.cells #[.bool false, .bool false, .bool false] 35 (0, 0))) ∧ Aa (w'.heap[gb193]? = some (.cells #[.bool x194000_1, .bool x194001_1, .bool x194002_1] 35 (0, 0))) ∧ Aa (Below w.heap.size w w'))
 case atStart => exact ⟨_, _, _, _, (by first | rfl | (simp; done) | (simp [*]; done)), H', ⟨Nat.le_refl _⟩, ⟨by (iterate 3 ((with_reducible repeat (first | refine Ag ?_ _ | refine Af ?_ | refine Ae ?_ _)); refine Bv ?_ NB183_193.out _)); (with_reducible repeat (first | refine Ag ?_ _ | refine Af ?_ | refine Ae ?_ _)); exact BK183.out⟩, ⟨by (iterate 3 ((with_reducible repeat (first | refine Ag ?_ _ | refine Af ?_ | refine Ae ?_ _)); refine Bv ?_ NB184_193.out _)); (with_reducible repeat (first | refine Ag ?_ _ | refine Af ?_ | refine Ae ?_ _)); exact BK184.out⟩, ⟨by (iterate 3 ((with_reducible repeat (first | refine Ag ?_ _ | refine Af ?_ | refine Ae ?_ _)); refine Bv ?_ NB185_193.out _)); (with_reducible repeat (first | refine Ag ?_ _ | refine Af ?_ | refine Ae ?_ _)); exact BK185.out⟩, ⟨by (with_reducible repeat (first | refine Ag ?_ _ | refine Af ?_ | refine Ae ?_ _)); apply Cf; (with_reducible repeat (first | refine Ag ?_ _ | refine Af ?_ | refine Ae ?_ _)); exact BK193.out⟩, ⟨by repeat (first | (with_reducible first | exact HB.out | apply Ak | apply Ah | apply Aj | refine Ao ?_ GE183.out | refine Ao ?_ GE184.out | refine Ao ?_ GE185.out | refine Ao ?_ GE193.out) | exact HB.out)⟩⟩
 case round =>(
 clear H'
 try clear c3
 try clear c3b0
 try clear c3b1
 try clear c4
 try clear c4b0
 try clear c4b1
 try clear c19
 try clear c19b0
 try clear c19b1
 try clear C12_0 C12_1 C12_2 C12_3 C12_4 C12_5 C12_6 C12_7 C12_8
 try clear C25_0 C25_1 C25_2 C25_3 C25_4 C25_5 C25_6 C25_7 C25_8
 try clear C30_0 C30_1 C30_2
 try clear C31_0 C31_1 C31_2 C31_3 C31_4 C31_5 C31_6 C31_7 C31_8
 try clear F12_0 F12_1 F12_2 F12_3 F12_4 F12_5 F12_6 F12_7 F12_8
 try clear F25_0 F25_1 F25_2 F25_3 F25_4 F25_5 F25_6 F25_7 F25_8
 try clear F30_0 F30_1 F30_2
 try clear F31_0 F31_1 F31_2 F31_3 F31_4 F31_5 F31_6 F31_7 F31_8
 try clear hx186_0
 try clear hx186_1
 try clear hx186_2
 try clear hx186_3
 try clear hx186_4
 try clear hx186_5
 try clear hx186_6
 try clear hx186_7
 try clear hx186_8
 try clear p186
 try clear q186
 obtain ⟨x28_1, x194000_1, x194001_1, x194002_1, rfl, HA, HK1, BK183, BK184, BK185, BK193, HB⟩ := hrel
 cases gk with
 | zero => exact absurd HA.out (by simp [Av.l0])
 | succ k1 =>(
 have H := HA.out
 clear HA
 simp only [Av.l0] at H
 by_cases c32 : x28_1 < (l1_8.length : Int)
 ·(
 rw [if_pos c32] at H
 have c32b0 : decide (x28_1 < (l1_8.length : Int)) = true := decide_eq_true c32
 clear c32
 by_cases c33 : 0 ≤ x28_1
 ·(
 rw [if_pos c33] at H
 have c33b0 : decide (0 ≤ x28_1) = true := decide_eq_true c33
 clear c33
 by_cases c34 : x28_1 < (l1_8.length : Int)
 ·(
 rw [if_pos c34] at H
 have c34b0 : decide (x28_1 < (l1_8.length : Int)) = true := decide_eq_true c34
 clear c34
 replace H := Dn H
 obtain ⟨⟨t196, t197, t198⟩, A350, H⟩ := H
 replace H : ((Co.f x194000_1 x194001_1 x194002_1 t196 t197 t198).bind fun bt199 => (Av.l0 k1 l1_8 (l1_8.length : Int) (wrap64 (x28_1 + 1)) l0_0 l0_1 bt199.1 bt199.2.1 bt199.2.2)) = some (r1, r2, r3) := H
 have A35 := Aa.mk A350
 clear A350
 replace H := Dn H
 obtain ⟨⟨t199, t200, t201⟩, A360, H⟩ := H
 replace H : (Av.l0 k1 l1_8 (l1_8.length : Int) (wrap64 (x28_1 + 1)) l0_0 l0_1 t199 t200 t201) = some (r1, r2, r3) := H
 have A36 := Aa.mk A360
 clear A360
 have H' := Aa.mk H
 clear H
 have p194 : 0 ≤ (x28_1 : Int) := dt_
 have q194 : x28_1 < (l1_8.length : Int) := dt_
 obtain ⟨ad194, A194_8, c194_8, e194, hx194_0, hx194_1, hx194_2, hx194_3, hx194_4, hx194_5, hx194_6, hx194_7, hx194_8, hl194_8, hi194_8⟩ := at_T27 HR1_8.out x28_1 p194 q194
 cases e194
 replace hx194_0 := hc_ HB hx194_0
 replace hx194_1 := hc_ HB hx194_1
 replace hx194_2 := hc_ HB hx194_2
 replace hx194_3 := hc_ HB hx194_3
 replace hx194_4 := hc_ HB hx194_4
 replace hx194_5 := hc_ HB hx194_5
 replace hx194_6 := hc_ HB hx194_6
 replace hx194_7 := hc_ HB hx194_7
 replace hx194_8 := hc_ HB hx194_8
 have HR194_8 := Aa.mk hi194_8
 have HC194_8 := Aa.mk hl194_8
 clear hi194_8 hl194_8
 replace p194 := eq_true p194
 replace q194 := eq_true q194
 try go_wp2_with (first | (refine bx_ (N := 7) (cs := #[.int .i64 0, .string (⟨#[]⟩ : ByteArray), .int .i64 0, .bool false, .int .i64 0, .string (⟨#[]⟩ : ByteArray), .int .i64 0, .string (⟨#[]⟩ : ByteArray), .slice none 0 0]) (t := 27) ?_; intro gb195 hg w37 hbox hb; have BK195 := Aa.mk (hbox); have GW195 := ge_ HB hg; have GE195 := ge_ HB hg; have NB183_195 := lt_ BK183 hg; have NB195_183 := gt_ BK183 hg; have NB184_195 := lt_ BK184 hg; have NB195_184 := gt_ BK184 hg; have NB185_195 := lt_ BK185 hg; have NB195_185 := gt_ BK185 hg; have NB193_195 := lt_ BK193 hg; have NB195_193 := gt_ BK193 hg; replace BK183 := bk_ BK183 hb; replace BK184 := bk_ BK184 hb; replace BK185 := bk_ BK185 hb; replace BK193 := bk_ BK193 hb; replace HB := bs_ HB hb; clear hb hbox hg; have hnb38 := NB195_183.out; have hnc38 := NB183_195.out; have hnb39 := NB195_184.out; have hnc39 := NB184_195.out; have hnb40 := NB195_185.out; have hnc40 := NB185_195.out; have hnb41 := NB195_193.out; have hnc41 := NB193_195.out; obtain ⟨C42_0, C42_1, C42_2, C42_3, C42_4, C42_5, C42_6, C42_7, C42_8⟩ := zc9_ BK195.out; obtain ⟨F42_0, F42_1, F42_2, F42_3, F42_4, F42_5, F42_6, F42_7, F42_8⟩ := zf9_ BK195.out))
 obtain ⟨w43, hcw43⟩ : ∃ w_, w_ = (((((((((w37.setCell ⟨gb195, 0, none⟩ (.int .i64 ((Al l1_8 x28_1).f0))).setCell ⟨gb195, 1, none⟩ (.string ((Al l1_8 x28_1).f1))).setCell ⟨gb195, 2, none⟩ (.int .i64 ((Al l1_8 x28_1).f2))).setCell ⟨gb195, 3, none⟩ (.bool ((Al l1_8 x28_1).f3.f0))).setCell ⟨gb195, 4, none⟩ (.int .i64 ((Al l1_8 x28_1).f3.f1))).setCell ⟨gb195, 5, none⟩ (.string ((Al l1_8 x28_1).f3.f2))).setCell ⟨gb195, 6, none⟩ (.int .i64 ((Al l1_8 x28_1).f4))).setCell ⟨gb195, 7, none⟩ (.string ((Al l1_8 x28_1).f5))).setCell ⟨gb195, 8, none⟩ (.slice A194_8 ((Al l1_8 x28_1).f6).length c194_8)) := ⟨_, rfl⟩
 rw [← hcw43]
 have n0_ : Aa (w43.heap[gb183]? = some (.cells #[.slice A0_0 l0_0.length c0_0, .slice A0_1 l0_1.length c0_1] 68 (0, 0))) := ⟨by rw [hcw43]; (iterate 9 ((with_reducible repeat (first | refine Ag ?_ _ | refine Af ?_ | refine Ae ?_ _)); refine Bv ?_ NB183_195.out _)); (with_reducible repeat (first | refine Ag ?_ _ | refine Af ?_ | refine Ae ?_ _)); exact BK183.out⟩
 have n1_ : Aa (w43.heap[gb184]? = some (.cells #[.int .i64 a1_0, .string a1_1, .int .i64 a1_2, .bool a1_3, .int .i64 a1_4, .string a1_5, .int .i64 a1_6, .string a1_7, .slice (some ad194) l1_8.length c1_8] 27 (0, 0))) := ⟨by rw [hcw43]; (iterate 9 ((with_reducible repeat (first | refine Ag ?_ _ | refine Af ?_ | refine Ae ?_ _)); refine Bv ?_ NB184_195.out _)); (with_reducible repeat (first | refine Ag ?_ _ | refine Af ?_ | refine Ae ?_ _)); exact BK184.out⟩
 have n2_ : Aa (w43.heap[gb185]? = some (.cells #[.bool false, .bool false, .bool false] 35 (0, 0))) := ⟨by rw [hcw43]; (iterate 9 ((with_reducible repeat (first | refine Ag ?_ _ | refine Af ?_ | refine Ae ?_ _)); refine Bv ?_ NB185_195.out _)); (with_reducible repeat (first | refine Ag ?_ _ | refine Af ?_ | refine Ae ?_ _)); exact BK185.out⟩
 have n3_ : Aa (w43.heap[gb193]? = some (.cells #[.bool x194000_1, .bool x194001_1, .bool x194002_1] 35 (0, 0))) := ⟨by rw [hcw43]; (iterate 9 ((with_reducible repeat (first | refine Ag ?_ _ | refine Af ?_ | refine Ae ?_ _)); refine Bv ?_ NB193_195.out _)); (with_reducible repeat (first | refine Ag ?_ _ | refine Af ?_ | refine Ae ?_ _)); exact BK193.out⟩
 have n4_ : Aa (w43.heap[gb195]? = some (.cells #[.int .i64 ((Al l1_8 x28_1).f0), .string ((Al l1_8 x28_1).f1), .int .i64 ((Al l1_8 x28_1).f2), .bool ((Al l1_8 x28_1).f3.f0), .int .i64 ((Al l1_8 x28_1).f3.f1), .string ((Al l1_8 x28_1).f3.f2), .int .i64 ((Al l1_8 x28_1).f4), .string ((Al l1_8 x28_1).f5), .slice A194_8 ((Al l1_8 x28_1).f6).length c194_8] 27 (0, 0))) := ⟨by rw [hcw43]; (with_reducible repeat (first | refine Ag ?_ _ | refine Af ?_ | refine Ae ?_ _)); apply blk_all9_; (with_reducible repeat (first | refine Ag ?_ _ | refine Af ?_ | refine Ae ?_ _)); exact BK195.out⟩
 have n5_ : Aa (Below w.heap.size w w43) := ⟨by rw [hcw43]; repeat (first | (with_reducible first | exact HB.out | apply Ak | apply Ah | apply Aj | refine Ao ?_ GE183.out | refine Ao ?_ GE184.out | refine Ao ?_ GE185.out | refine Ao ?_ GE193.out | refine Ao ?_ GE195.out) | exact HB.out)⟩
 (try clear BK183)
 (try clear BK184)
 (try clear BK185)
 (try clear BK193)
 (try clear BK195)
 (try clear HB)
 clear hcw43
 have BK183 := n0_
 have BK184 := n1_
 have BK185 := n2_
 have BK193 := n3_
 have BK195 := n4_
 have HB := n5_
 clear n0_ n1_ n2_ n3_ n4_ n5_
 replace BK183 := Aa.mk (Af BK183.out); replace BK184 := Aa.mk (Af BK184.out); replace BK185 := Aa.mk (Af BK185.out); replace BK193 := Aa.mk (Af BK193.out); replace BK195 := Aa.mk (Af BK195.out); replace HB := Aa.mk (Aj HB.out)
 refine start_ (n := 6) (S := fun w' => w'.cell? ⟨gb193, 0, none⟩ = some (.bool x194000_1) ∧ w'.cell? ⟨gb193, 1, none⟩ = some (.bool x194001_1) ∧ w'.cell? ⟨gb193, 2, none⟩ = some (.bool x194002_1) ∧ w'.cell? ⟨gb183, 0, none⟩ = some (.slice A0_0 l0_0.length c0_0) ∧ w'.cell? ⟨gb183, 1, none⟩ = some (.slice A0_1 l0_1.length c0_1) ∧ w'.cell? ⟨gb195, 0, none⟩ = some (.int .i64 ((Al l1_8 x28_1).f0)) ∧ w'.cell? ⟨gb195, 1, none⟩ = some (.string ((Al l1_8 x28_1).f1)) ∧ w'.cell? ⟨gb195, 2, none⟩ = some (.int .i64 ((Al l1_8 x28_1).f2)) ∧ w'.cell? ⟨gb195, 3, none⟩ = some (.bool ((Al l1_8 x28_1).f3.f0)) ∧ w'.cell? ⟨gb195, 4, none⟩ = some (.int .i64 ((Al l1_8 x28_1).f3.f1)) ∧ w'.cell? ⟨gb195, 5, none⟩ = some (.string ((Al l1_8 x28_1).f3.f2)) ∧ w'.cell? ⟨gb195, 6, none⟩ = some (.int .i64 ((Al l1_8 x28_1).f4)) ∧ w'.cell? ⟨gb195, 7, none⟩ = some (.string ((Al l1_8 x28_1).f5)) ∧ w'.cell? ⟨gb195, 8, none⟩ = some (.slice A194_8 ((Al l1_8 x28_1).f6).length c194_8)) (ds := [5]) #[false, false, false, false, false, false] (by kernel_rfl) rfl rfl ⟨(Ab BK193.out 0).trans rfl, (Ab BK193.out 1).trans rfl, (Ab BK193.out 2).trans rfl, (Ab BK183.out 0).trans rfl, (Ab BK183.out 1).trans rfl, (Ab BK195.out 0).trans rfl, (Ab BK195.out 1).trans rfl, (Ab BK195.out 2).trans rfl, (Ab BK195.out 3).trans rfl, (Ab BK195.out 4).trans rfl, (Ab BK195.out 5).trans rfl, (Ab BK195.out 6).trans rfl, (Ab BK195.out 7).trans rfl, (Ab BK195.out 8).trans rfl⟩ (fun hHeld => ?_)
 generalize w43.drew = w44 at BK183 BK184 BK185 BK193 BK195 HB hHeld ⊢
 refine take_ (i := 0) (N := some 32) (v := ?_) (a' := ?_) #[true, false, false, false, false, false] rfl rfl (by kernel_rfl) (fun _ _ _ h => h) (Or.inl ⟨by rfl, ?_⟩) hHeld ?_ ?_
 rotate_left
 ·(
 rintro w' ⟨s0, s1, s2, s3, s4, s5, s6, s7, s8, s9, s10, s11, s12, s13⟩
 go_simp
 with_reducible rfl)
 rotate_left
 ·(
 simp only [Act.put, List.setIfInBounds_toArray, List.set_cons_zero, List.set_cons_succ, i64_w, i32_w]
 rfl)
 refine take_ (i := 1) (N := some 33) (v := ?_) (a' := ?_) #[true, true, false, false, false, false] rfl rfl (by kernel_rfl) (fun _ _ _ h => h) (Or.inl ⟨by rfl, ?_⟩) hHeld ?_ ?_
 rotate_left
 ·(
 rintro w' ⟨s0, s1, s2, s3, s4, s5, s6, s7, s8, s9, s10, s11, s12, s13⟩
 go_simp
 with_reducible rfl)
 rotate_left
 ·(
 simp only [Act.put, List.setIfInBounds_toArray, List.set_cons_zero, List.set_cons_succ, i64_w, i32_w]
 rfl)
 refine take_ (i := 2) (N := some 34) (v := ?_) (a' := ?_) #[true, true, true, false, false, false] rfl rfl (by kernel_rfl) (fun _ _ _ h => h) (Or.inl ⟨by rfl, ?_⟩) hHeld ?_ ?_
 rotate_left
 ·(
 rintro w' ⟨s0, s1, s2, s3, s4, s5, s6, s7, s8, s9, s10, s11, s12, s13⟩
 go_simp
 with_reducible rfl)
 rotate_left
 ·(
 simp only [Act.put, List.setIfInBounds_toArray, List.set_cons_zero, List.set_cons_succ, i64_w, i32_w]
 rfl)
 refine one_ (i := 3) (N := some 35) #[true, true, true, true, false, false] rfl rfl (by kernel_rfl) (by decide) (fun K hK => ?_)
 refine gs_ Try.func29 #[.agg #[.slice A0_0 l0_0.length c0_0, .slice A0_1 l0_1.length c0_1], .agg #[.int .i64 ((Al l1_8 x28_1).f0), .string ((Al l1_8 x28_1).f1), .int .i64 ((Al l1_8 x28_1).f2), .bool ((Al l1_8 x28_1).f3.f0), .int .i64 ((Al l1_8 x28_1).f3.f1), .string ((Al l1_8 x28_1).f3.f2), .int .i64 ((Al l1_8 x28_1).f4), .string ((Al l1_8 x28_1).f5), .slice A194_8 ((Al l1_8 x28_1).f6).length c194_8]] ?_
 with_reducible refine (ih k1 (by have := HK1.out; omega) _ _ l0_0 _ _ l0_1 ((Al l1_8 x28_1).f0) ((Al l1_8 x28_1).f1) ((Al l1_8 x28_1).f2) ((Al l1_8 x28_1).f3.f0) ((Al l1_8 x28_1).f3.f1) ((Al l1_8 x28_1).f3.f2) ((Al l1_8 x28_1).f4) ((Al l1_8 x28_1).f5) _ _ ((Al l1_8 x28_1).f6) t196 t197 t198 _ ?side1 ?side2 ?side3 ?side4 ?side5 ?side6 A35.out).mono ?_
 (case side1 => repeat (first | exact (Kd.C_below HR0_0.out HB.out) | (with_reducible refine Kd.C_alloc ?_ _) | (with_reducible refine Kd.C_drewN ?_ _) | (with_reducible refine Kd.C_drew ?_)))
 (case side2 => exact HC0_0.out)
 (case side3 => repeat (first | exact (Kd.C_below HR0_1.out HB.out) | (with_reducible refine Kd.C_alloc ?_ _) | (with_reducible refine Kd.C_drewN ?_ _) | (with_reducible refine Kd.C_drew ?_)))
 (case side4 => exact HC0_1.out)
 (case side5 => repeat (first | exact (Kd.C_below HR194_8.out HB.out) | (with_reducible refine Kd.C_alloc ?_ _) | (with_reducible refine Kd.C_drewN ?_ _) | (with_reducible refine Kd.C_drew ?_)))
 (case side6 => exact HC194_8.out)
 rintro e w45 ⟨rfl, hb⟩
 refine ⟨_, rfl, ?_⟩
 replace BK183 := bk_ BK183 hb; replace BK184 := bk_ BK184 hb; replace BK185 := bk_ BK185 hb; replace BK193 := bk_ BK193 hb; replace BK195 := bk_ BK195 hb; replace HB := bs_ HB hb
 (try clear hb)
 refine hK.out _ _ ⟨(Ab BK193.out 0).trans rfl, (Ab BK193.out 1).trans rfl, (Ab BK193.out 2).trans rfl, (Ab BK183.out 0).trans rfl, (Ab BK183.out 1).trans rfl, (Ab BK195.out 0).trans rfl, (Ab BK195.out 1).trans rfl, (Ab BK195.out 2).trans rfl, (Ab BK195.out 3).trans rfl, (Ab BK195.out 4).trans rfl, (Ab BK195.out 5).trans rfl, (Ab BK195.out 6).trans rfl, (Ab BK195.out 7).trans rfl, (Ab BK195.out 8).trans rfl⟩ (fun hHeld => ?_)
 clear hK K
 refine norm_ (a' := ?_) ?_ ?_
 rotate_left
 ·(
 show Act.put _ (some 35) _ = _
 simp only [Act.put, List.setIfInBounds_toArray, List.set_cons_zero, List.set_cons_succ, i64_w, i32_w]
 rfl)
 refine one_ (i := 4) (N := some 36) #[true, true, true, true, true, false] rfl rfl (by kernel_rfl) (by decide) (fun K hK => ?_)
 refine gs_ Try.func52 #[.agg #[.bool x194000_1, .bool x194001_1, .bool x194002_1], .agg #[.bool t196, .bool t197, .bool t198]] ?_
 with_reducible refine (Co.calls x194000_1 x194001_1 x194002_1 t196 t197 t198 t199 t200 t201 _ A36.out).mono ?_
 rintro e w46 ⟨rfl, hb⟩
 refine ⟨_, rfl, ?_⟩
 replace BK183 := bk_ BK183 hb; replace BK184 := bk_ BK184 hb; replace BK185 := bk_ BK185 hb; replace BK193 := bk_ BK193 hb; replace BK195 := bk_ BK195 hb; replace HB := bs_ HB hb
 (try clear hb)
 refine hK.out _ _ ⟨(Ab BK193.out 0).trans rfl, (Ab BK193.out 1).trans rfl, (Ab BK193.out 2).trans rfl, (Ab BK183.out 0).trans rfl, (Ab BK183.out 1).trans rfl, (Ab BK195.out 0).trans rfl, (Ab BK195.out 1).trans rfl, (Ab BK195.out 2).trans rfl, (Ab BK195.out 3).trans rfl, (Ab BK195.out 4).trans rfl, (Ab BK195.out 5).trans rfl, (Ab BK195.out 6).trans rfl, (Ab BK195.out 7).trans rfl, (Ab BK195.out 8).trans rfl⟩ (fun hHeld => ?_)
 clear hK K
 refine norm_ (a' := ?_) ?_ ?_
 rotate_left
 ·(
 show Act.put _ (some 36) _ = _
 simp only [Act.put, List.setIfInBounds_toArray, List.set_cons_zero, List.set_cons_succ, i64_w, i32_w]
 rfl)
 refine last_ (i := 5) (N := none) #[true, true, true, true, true, true] rfl rfl (by kernel_rfl) (by decide) (fun K hK => ?_)
 have hs47 : w46.cell? ⟨gb193, 0, none⟩ = some (.bool x194000_1) := (Ab BK193.out 0).trans rfl
 have hfs47 := Bm BK193.out 0
 have hns47_0 := NB183_193.out
 have hns47_1 := NB184_193.out
 have hns47_2 := NB185_193.out
 have hns47_4 := NB195_193.out
 have hms47_0 := NB193_183.out
 have hms47_1 := NB193_184.out
 have hms47_2 := NB193_185.out
 have hms47_4 := NB193_195.out
 have hs48 : w46.cell? ⟨gb193, 1, none⟩ = some (.bool x194001_1) := (Ab BK193.out 1).trans rfl
 have hfs48 := Bm BK193.out 1
 have hns48_0 := NB183_193.out
 have hns48_1 := NB184_193.out
 have hns48_2 := NB185_193.out
 have hns48_4 := NB195_193.out
 have hms48_0 := NB193_183.out
 have hms48_1 := NB193_184.out
 have hms48_2 := NB193_185.out
 have hms48_4 := NB193_195.out
 have hs49 : w46.cell? ⟨gb193, 2, none⟩ = some (.bool x194002_1) := (Ab BK193.out 2).trans rfl
 have hfs49 := Bm BK193.out 2
 have hns49_0 := NB183_193.out
 have hns49_1 := NB184_193.out
 have hns49_2 := NB185_193.out
 have hns49_4 := NB195_193.out
 have hms49_0 := NB193_183.out
 have hms49_1 := NB193_184.out
 have hms49_2 := NB193_185.out
 have hms49_4 := NB193_195.out
 refine skip_ (w1 := ?_) (by rfl) rfl ?_ ?_
 rotate_left
 ·(
 go_simp
 rfl)
 refine hK.out _ _ ?_
 clear hK K
 refine done_ (by kernel_rfl) ?_
 try go_wp2
 go_roundg k1
 case measure => have := HK1.out; omega
 case rel => exact ⟨_, _, _, _, (by first | rfl | (simp; done) | (simp [*]; done)), H', ⟨by have := HK1.out; omega⟩, ⟨by (iterate 3 ((with_reducible repeat (first | refine Ag ?_ _ | refine Af ?_ | refine Ae ?_ _)); refine Bv ?_ NB183_193.out _)); (with_reducible repeat (first | refine Ag ?_ _ | refine Af ?_ | refine Ae ?_ _)); exact BK183.out⟩, ⟨by (iterate 3 ((with_reducible repeat (first | refine Ag ?_ _ | refine Af ?_ | refine Ae ?_ _)); refine Bv ?_ NB184_193.out _)); (with_reducible repeat (first | refine Ag ?_ _ | refine Af ?_ | refine Ae ?_ _)); exact BK184.out⟩, ⟨by (iterate 3 ((with_reducible repeat (first | refine Ag ?_ _ | refine Af ?_ | refine Ae ?_ _)); refine Bv ?_ NB185_193.out _)); (with_reducible repeat (first | refine Ag ?_ _ | refine Af ?_ | refine Ae ?_ _)); exact BK185.out⟩, ⟨by (with_reducible repeat (first | refine Ag ?_ _ | refine Af ?_ | refine Ae ?_ _)); apply Cf; (with_reducible repeat (first | refine Ag ?_ _ | refine Af ?_ | refine Ae ?_ _)); exact BK193.out⟩, ⟨by repeat (first | (with_reducible first | exact HB.out | apply Ak | apply Ah | apply Aj | refine Ao ?_ GE183.out | refine Ao ?_ GE184.out | refine Ao ?_ GE185.out | refine Ao ?_ GE193.out | refine Ao ?_ GE195.out) | exact HB.out)⟩⟩)
 ·(
 rw [if_neg c34] at H
 exact absurd H (by simp)))
 ·(
 rw [if_neg c33] at H
 exact absurd H (by simp)))
 ·(
 rw [if_neg c32] at H
 have c32b0 : decide (x28_1 < (l1_8.length : Int)) = false := decide_eq_false c32
 clear c32
 simp only [Option.some.injEq, Prod.mk.injEq] at H
 obtain ⟨rfl, rfl, rfl⟩ := H
 have hnb50 := NB193_183.out
 have hnc50 := NB183_193.out
 have hnb51 := NB193_184.out
 have hnc51 := NB184_193.out
 have hnb52 := NB193_185.out
 have hnc52 := NB185_193.out
 obtain ⟨C53_0, C53_1, C53_2⟩ := cz3_ BK193.out
 obtain ⟨F53_0, F53_1, F53_2⟩ := fz3_ BK193.out
 have hnb54 := NB185_183.out
 have hnc54 := NB183_185.out
 have hnb55 := NB185_184.out
 have hnc55 := NB184_185.out
 obtain ⟨C56_0, C56_1, C56_2⟩ := cz3_ BK185.out
 obtain ⟨F56_0, F56_1, F56_2⟩ := fz3_ BK185.out
 go_wp2
 refine bodyPost_ret (results_cell_row rfl _ _ gb185 35 #[.bool x194000_1, .bool x194001_1, .bool x194002_1] (0, 0) _ rfl (by (with_reducible repeat (first | refine Ag ?_ _ | refine Af ?_ | refine Ae ?_ _)); apply Cf; (with_reducible repeat (first | refine Ag ?_ _ | refine Af ?_ | refine Ae ?_ _)); exact BK185.out) Try.underlying35 rfl (by kernel_rfl)) rfl ?_
 exact en_ HB))))
 ·(
 rw [if_neg c19] at H
 have c19b0 : (a1_0 == 6) = false := Dj c19
 have c19b1 : (a1_0 != 6) = true := Dm c19
 by_cases c57 : a1_0 = 7
 ·(
 rw [if_pos c57] at H
 have c57b0 : (a1_0 == 7) = true := Dl c57
 have c57b1 : (a1_0 != 7) = false := Dk c57
 clear c57
 have H' := Aa.mk H
 clear H
 go_enter Try.func29, Try.ntmps29
 go_wp2_with (first | (refine bx_ (N := 2) (cs := #[.slice A0_0 l0_0.length c0_0, .slice A0_1 l0_1.length c0_1]) (t := 68) ?_; intro gb183 hg w58 hbox hb; have BK183 := Aa.mk (hbox); have GW183 := ge_ HB hg; have GE183 := ge_ HB hg; replace HB := bs_ HB hb; clear hb hbox hg) | (refine bx_ (N := 3) (cs := #[.int .i64 a1_0, .string a1_1, .int .i64 a1_2, .bool a1_3, .int .i64 a1_4, .string a1_5, .int .i64 a1_6, .string a1_7, .slice A1_8 l1_8.length c1_8]) (t := 27) ?_; intro gb184 hg w59 hbox hb; have BK184 := Aa.mk (hbox); have GW184 := ge_ HB hg; have GE184 := ge_ HB hg; have NB183_184 := lt_ BK183 hg; have NB184_183 := gt_ BK183 hg; replace BK183 := bk_ BK183 hb; replace HB := bs_ HB hb; clear hb hbox hg) | (refine bx_ (N := 4) (cs := #[.bool false, .bool false, .bool false]) (t := 35) ?_; intro gb185 hg w60 hbox hb; have BK185 := Aa.mk (hbox); have GW185 := ge_ HB hg; have GE185 := ge_ HB hg; have NB183_185 := lt_ BK183 hg; have NB185_183 := gt_ BK183 hg; have NB184_185 := lt_ BK184 hg; have NB185_184 := gt_ BK184 hg; replace BK183 := bk_ BK183 hb; replace BK184 := bk_ BK184 hb; replace HB := bs_ HB hb; clear hb hbox hg; have hnb61 := NB184_183.out; have hnc61 := NB183_184.out; have hnb62 := NB184_185.out; have hnc62 := NB185_184.out; obtain ⟨C63_0, C63_1, C63_2, C63_3, C63_4, C63_5, C63_6, C63_7, C63_8⟩ := zc9_ BK184.out; obtain ⟨F63_0, F63_1, F63_2, F63_3, F63_4, F63_5, F63_6, F63_7, F63_8⟩ := zf9_ BK184.out) | (refine bx_ (N := 8) (cs := #[.bool false, .bool false, .bool false]) (t := 35) ?_; intro gb202 hg w64 hbox hb; have BK202 := Aa.mk (hbox); have GW202 := ge_ HB hg; have GE202 := ge_ HB hg; have NB183_202 := lt_ BK183 hg; have NB202_183 := gt_ BK183 hg; have NB184_202 := lt_ BK184 hg; have NB202_184 := gt_ BK184 hg; have NB185_202 := lt_ BK185 hg; have NB202_185 := gt_ BK185 hg; replace BK183 := bk_ BK183 hb; replace BK184 := bk_ BK184 hb; replace BK185 := bk_ BK185 hb; replace HB := bs_ HB hb; clear hb hbox hg; have hnb65 := NB202_183.out; have hnc65 := NB183_202.out; have hnb66 := NB202_184.out; have hnc66 := NB184_202.out; have hnb67 := NB202_185.out; have hnc67 := NB185_202.out; obtain ⟨C68_0, C68_1, C68_2⟩ := zc3_ BK202.out; obtain ⟨F68_0, F68_1, F68_2⟩ := zf3_ BK202.out; obtain ⟨C69_0, C69_1, C69_2, C69_3, C69_4, C69_5, C69_6, C69_7, C69_8⟩ := zc9_ BK184.out; obtain ⟨F69_0, F69_1, F69_2, F69_3, F69_4, F69_5, F69_6, F69_7, F69_8⟩ := zf9_ BK184.out))
 go_loopg [45] k (fun kq v45 w' => ∃ (x45_1 : Int) (x203000_1 : Bool) (x203001_1 : Bool) (x203002_1 : Bool), v45 = .int .i64 x45_1 ∧ Aa (Av.l1 kq l1_8 (l1_8.length : Int) x45_1 l0_0 l0_1 x203000_1 x203001_1 x203002_1 = some (r1, r2, r3)) ∧ Aa (kq ≤ k) ∧ Aa (w'.heap[gb183]? = some (.cells #[(.slice A0_0 l0_0.length c0_0), (.slice A0_1 l0_1.length c0_1)] 68 (0, 0))) ∧ Aa (w'.heap[gb184]? = some (.cells #[.int .i64 a1_0, .string a1_1, .int .i64 a1_2, .bool a1_3, .int .i64 a1_4, .string a1_5, .int .i64 a1_6, .string a1_7, (.slice A1_8 l1_8.length c1_8)] 27 (0, 0))) ∧ Aa (w'.heap[gb185]? = some (.cells #[.bool false, .bool false, .bool false] 35 (0, 0))) ∧ Aa (w'.heap[gb202]? = some (.cells #[.bool x203000_1, .bool x203001_1, .bool x203002_1] 35 (0, 0))) ∧ Aa (Below w.heap.size w w'))
 case atStart => exact ⟨_, _, _, _, (by first | rfl | (simp; done) | (simp [*]; done)), H', ⟨Nat.le_refl _⟩, ⟨by (iterate 3 ((with_reducible repeat (first | refine Ag ?_ _ | refine Af ?_ | refine Ae ?_ _)); refine Bv ?_ NB183_202.out _)); (with_reducible repeat (first | refine Ag ?_ _ | refine Af ?_ | refine Ae ?_ _)); exact BK183.out⟩, ⟨by (iterate 3 ((with_reducible repeat (first | refine Ag ?_ _ | refine Af ?_ | refine Ae ?_ _)); refine Bv ?_ NB184_202.out _)); (with_reducible repeat (first | refine Ag ?_ _ | refine Af ?_ | refine Ae ?_ _)); exact BK184.out⟩, ⟨by (iterate 3 ((with_reducible repeat (first | refine Ag ?_ _ | refine Af ?_ | refine Ae ?_ _)); refine Bv ?_ NB185_202.out _)); (with_reducible repeat (first | refine Ag ?_ _ | refine Af ?_ | refine Ae ?_ _)); exact BK185.out⟩, ⟨by (with_reducible repeat (first | refine Ag ?_ _ | refine Af ?_ | refine Ae ?_ _)); apply Cf; (with_reducible repeat (first | refine Ag ?_ _ | refine Af ?_ | refine Ae ?_ _)); exact BK202.out⟩, ⟨by repeat (first | (with_reducible first | exact HB.out | apply Ak | apply Ah | apply Aj | refine Ao ?_ GE183.out | refine Ao ?_ GE184.out | refine Ao ?_ GE185.out | refine Ao ?_ GE202.out) | exact HB.out)⟩⟩
 case round =>(
 clear H'
 try clear c19
 try clear c19b0
 try clear c19b1
 try clear c32
 try clear c32b0
 try clear c33
 try clear c33b0
 try clear c34
 try clear c34b0
 try clear c57
 try clear c57b0
 try clear c57b1
 try clear C12_0 C12_1 C12_2 C12_3 C12_4 C12_5 C12_6 C12_7 C12_8
 try clear C25_0 C25_1 C25_2 C25_3 C25_4 C25_5 C25_6 C25_7 C25_8
 try clear C30_0 C30_1 C30_2
 try clear C31_0 C31_1 C31_2 C31_3 C31_4 C31_5 C31_6 C31_7 C31_8
 try clear C42_0 C42_1 C42_2 C42_3 C42_4 C42_5 C42_6 C42_7 C42_8
 try clear C53_0 C53_1 C53_2
 try clear C56_0 C56_1 C56_2
 try clear C63_0 C63_1 C63_2 C63_3 C63_4 C63_5 C63_6 C63_7 C63_8
 try clear C68_0 C68_1 C68_2
 try clear C69_0 C69_1 C69_2 C69_3 C69_4 C69_5 C69_6 C69_7 C69_8
 try clear F12_0 F12_1 F12_2 F12_3 F12_4 F12_5 F12_6 F12_7 F12_8
 try clear F25_0 F25_1 F25_2 F25_3 F25_4 F25_5 F25_6 F25_7 F25_8
 try clear F30_0 F30_1 F30_2
 try clear F31_0 F31_1 F31_2 F31_3 F31_4 F31_5 F31_6 F31_7 F31_8
 try clear F42_0 F42_1 F42_2 F42_3 F42_4 F42_5 F42_6 F42_7 F42_8
 try clear F53_0 F53_1 F53_2
 try clear F56_0 F56_1 F56_2
 try clear F63_0 F63_1 F63_2 F63_3 F63_4 F63_5 F63_6 F63_7 F63_8
 try clear F68_0 F68_1 F68_2
 try clear F69_0 F69_1 F69_2 F69_3 F69_4 F69_5 F69_6 F69_7 F69_8
 try clear hx194_0
 try clear hx194_1
 try clear hx194_2
 try clear hx194_3
 try clear hx194_4
 try clear hx194_5
 try clear hx194_6
 try clear hx194_7
 try clear hx194_8
 try clear p194
 try clear q194
 obtain ⟨x45_1, x203000_1, x203001_1, x203002_1, rfl, HA, HK1, BK183, BK184, BK185, BK202, HB⟩ := hrel
 cases gk with
 | zero => exact absurd HA.out (by simp [Av.l1])
 | succ k1 =>(
 have H := HA.out
 clear HA
 simp only [Av.l1] at H
 by_cases c70 : x45_1 < (l1_8.length : Int)
 ·(
 rw [if_pos c70] at H
 have c70b0 : decide (x45_1 < (l1_8.length : Int)) = true := decide_eq_true c70
 clear c70
 by_cases c71 : 0 ≤ x45_1
 ·(
 rw [if_pos c71] at H
 have c71b0 : decide (0 ≤ x45_1) = true := decide_eq_true c71
 clear c71
 by_cases c72 : x45_1 < (l1_8.length : Int)
 ·(
 rw [if_pos c72] at H
 have c72b0 : decide (x45_1 < (l1_8.length : Int)) = true := decide_eq_true c72
 clear c72
 replace H := Dn H
 obtain ⟨⟨t205, t206, t207⟩, A730, H⟩ := H
 replace H : ((Cl.f t205 t206 t207).bind fun bt208 => ((Co.f x203000_1 x203001_1 x203002_1 bt208.1 bt208.2.1 bt208.2.2).bind fun bt211 => (Av.l1 k1 l1_8 (l1_8.length : Int) (wrap64 (x45_1 + 1)) l0_0 l0_1 bt211.1 bt211.2.1 bt211.2.2))) = some (r1, r2, r3) := H
 have A73 := Aa.mk A730
 clear A730
 replace H := Dn H
 obtain ⟨⟨t208, t209, t210⟩, A740, H⟩ := H
 replace H : ((Co.f x203000_1 x203001_1 x203002_1 t208 t209 t210).bind fun bt211 => (Av.l1 k1 l1_8 (l1_8.length : Int) (wrap64 (x45_1 + 1)) l0_0 l0_1 bt211.1 bt211.2.1 bt211.2.2)) = some (r1, r2, r3) := H
 have A74 := Aa.mk A740
 clear A740
 replace H := Dn H
 obtain ⟨⟨t211, t212, t213⟩, A750, H⟩ := H
 replace H : (Av.l1 k1 l1_8 (l1_8.length : Int) (wrap64 (x45_1 + 1)) l0_0 l0_1 t211 t212 t213) = some (r1, r2, r3) := H
 have A75 := Aa.mk A750
 clear A750
 have H' := Aa.mk H
 clear H
 have p203 : 0 ≤ (x45_1 : Int) := dt_
 have q203 : x45_1 < (l1_8.length : Int) := dt_
 obtain ⟨ad203, A203_8, c203_8, e203, hx203_0, hx203_1, hx203_2, hx203_3, hx203_4, hx203_5, hx203_6, hx203_7, hx203_8, hl203_8, hi203_8⟩ := at_T27 HR1_8.out x45_1 p203 q203
 cases e203
 replace hx203_0 := hc_ HB hx203_0
 replace hx203_1 := hc_ HB hx203_1
 replace hx203_2 := hc_ HB hx203_2
 replace hx203_3 := hc_ HB hx203_3
 replace hx203_4 := hc_ HB hx203_4
 replace hx203_5 := hc_ HB hx203_5
 replace hx203_6 := hc_ HB hx203_6
 replace hx203_7 := hc_ HB hx203_7
 replace hx203_8 := hc_ HB hx203_8
 have HR203_8 := Aa.mk hi203_8
 have HC203_8 := Aa.mk hl203_8
 clear hi203_8 hl203_8
 replace p203 := eq_true p203
 replace q203 := eq_true q203
 try go_wp2_with (first | (refine bx_ (N := 10) (cs := #[.int .i64 0, .string (⟨#[]⟩ : ByteArray), .int .i64 0, .bool false, .int .i64 0, .string (⟨#[]⟩ : ByteArray), .int .i64 0, .string (⟨#[]⟩ : ByteArray), .slice none 0 0]) (t := 27) ?_; intro gb204 hg w76 hbox hb; have BK204 := Aa.mk (hbox); have GW204 := ge_ HB hg; have GE204 := ge_ HB hg; have NB183_204 := lt_ BK183 hg; have NB204_183 := gt_ BK183 hg; have NB184_204 := lt_ BK184 hg; have NB204_184 := gt_ BK184 hg; have NB185_204 := lt_ BK185 hg; have NB204_185 := gt_ BK185 hg; have NB202_204 := lt_ BK202 hg; have NB204_202 := gt_ BK202 hg; replace BK183 := bk_ BK183 hb; replace BK184 := bk_ BK184 hb; replace BK185 := bk_ BK185 hb; replace BK202 := bk_ BK202 hb; replace HB := bs_ HB hb; clear hb hbox hg; have hnb77 := NB204_183.out; have hnc77 := NB183_204.out; have hnb78 := NB204_184.out; have hnc78 := NB184_204.out; have hnb79 := NB204_185.out; have hnc79 := NB185_204.out; have hnb80 := NB204_202.out; have hnc80 := NB202_204.out; obtain ⟨C81_0, C81_1, C81_2, C81_3, C81_4, C81_5, C81_6, C81_7, C81_8⟩ := zc9_ BK204.out; obtain ⟨F81_0, F81_1, F81_2, F81_3, F81_4, F81_5, F81_6, F81_7, F81_8⟩ := zf9_ BK204.out))
 obtain ⟨w82, hcw82⟩ : ∃ w_, w_ = (((((((((w76.setCell ⟨gb204, 0, none⟩ (.int .i64 ((Al l1_8 x45_1).f0))).setCell ⟨gb204, 1, none⟩ (.string ((Al l1_8 x45_1).f1))).setCell ⟨gb204, 2, none⟩ (.int .i64 ((Al l1_8 x45_1).f2))).setCell ⟨gb204, 3, none⟩ (.bool ((Al l1_8 x45_1).f3.f0))).setCell ⟨gb204, 4, none⟩ (.int .i64 ((Al l1_8 x45_1).f3.f1))).setCell ⟨gb204, 5, none⟩ (.string ((Al l1_8 x45_1).f3.f2))).setCell ⟨gb204, 6, none⟩ (.int .i64 ((Al l1_8 x45_1).f4))).setCell ⟨gb204, 7, none⟩ (.string ((Al l1_8 x45_1).f5))).setCell ⟨gb204, 8, none⟩ (.slice A203_8 ((Al l1_8 x45_1).f6).length c203_8)) := ⟨_, rfl⟩
 rw [← hcw82]
 have n0_ : Aa (w82.heap[gb183]? = some (.cells #[.slice A0_0 l0_0.length c0_0, .slice A0_1 l0_1.length c0_1] 68 (0, 0))) := ⟨by rw [hcw82]; (iterate 9 ((with_reducible repeat (first | refine Ag ?_ _ | refine Af ?_ | refine Ae ?_ _)); refine Bv ?_ NB183_204.out _)); (with_reducible repeat (first | refine Ag ?_ _ | refine Af ?_ | refine Ae ?_ _)); exact BK183.out⟩
 have n1_ : Aa (w82.heap[gb184]? = some (.cells #[.int .i64 a1_0, .string a1_1, .int .i64 a1_2, .bool a1_3, .int .i64 a1_4, .string a1_5, .int .i64 a1_6, .string a1_7, .slice (some ad203) l1_8.length c1_8] 27 (0, 0))) := ⟨by rw [hcw82]; (iterate 9 ((with_reducible repeat (first | refine Ag ?_ _ | refine Af ?_ | refine Ae ?_ _)); refine Bv ?_ NB184_204.out _)); (with_reducible repeat (first | refine Ag ?_ _ | refine Af ?_ | refine Ae ?_ _)); exact BK184.out⟩
 have n2_ : Aa (w82.heap[gb185]? = some (.cells #[.bool false, .bool false, .bool false] 35 (0, 0))) := ⟨by rw [hcw82]; (iterate 9 ((with_reducible repeat (first | refine Ag ?_ _ | refine Af ?_ | refine Ae ?_ _)); refine Bv ?_ NB185_204.out _)); (with_reducible repeat (first | refine Ag ?_ _ | refine Af ?_ | refine Ae ?_ _)); exact BK185.out⟩
 have n3_ : Aa (w82.heap[gb202]? = some (.cells #[.bool x203000_1, .bool x203001_1, .bool x203002_1] 35 (0, 0))) := ⟨by rw [hcw82]; (iterate 9 ((with_reducible repeat (first | refine Ag ?_ _ | refine Af ?_ | refine Ae ?_ _)); refine Bv ?_ NB202_204.out _)); (with_reducible repeat (first | refine Ag ?_ _ | refine Af ?_ | refine Ae ?_ _)); exact BK202.out⟩
 have n4_ : Aa (w82.heap[gb204]? = some (.cells #[.int .i64 ((Al l1_8 x45_1).f0), .string ((Al l1_8 x45_1).f1), .int .i64 ((Al l1_8 x45_1).f2), .bool ((Al l1_8 x45_1).f3.f0), .int .i64 ((Al l1_8 x45_1).f3.f1), .string ((Al l1_8 x45_1).f3.f2), .int .i64 ((Al l1_8 x45_1).f4), .string ((Al l1_8 x45_1).f5), .slice A203_8 ((Al l1_8 x45_1).f6).length c203_8] 27 (0, 0))) := ⟨by rw [hcw82]; (with_reducible repeat (first | refine Ag ?_ _ | refine Af ?_ | refine Ae ?_ _)); apply blk_all9_; (with_reducible repeat (first | refine Ag ?_ _ | refine Af ?_ | refine Ae ?_ _)); exact BK204.out⟩
 have n5_ : Aa (Below w.heap.size w w82) := ⟨by rw [hcw82]; repeat (first | (with_reducible first | exact HB.out | apply Ak | apply Ah | apply Aj | refine Ao ?_ GE183.out | refine Ao ?_ GE184.out | refine Ao ?_ GE185.out | refine Ao ?_ GE202.out | refine Ao ?_ GE204.out) | exact HB.out)⟩
 (try clear BK183)
 (try clear BK184)
 (try clear BK185)
 (try clear BK202)
 (try clear BK204)
 (try clear HB)
 clear hcw82
 have BK183 := n0_
 have BK184 := n1_
 have BK185 := n2_
 have BK202 := n3_
 have BK204 := n4_
 have HB := n5_
 clear n0_ n1_ n2_ n3_ n4_ n5_
 replace BK183 := Aa.mk (Af BK183.out); replace BK184 := Aa.mk (Af BK184.out); replace BK185 := Aa.mk (Af BK185.out); replace BK202 := Aa.mk (Af BK202.out); replace BK204 := Aa.mk (Af BK204.out); replace HB := Aa.mk (Aj HB.out)
 refine start_ (n := 7) (S := fun w' => w'.cell? ⟨gb202, 0, none⟩ = some (.bool x203000_1) ∧ w'.cell? ⟨gb202, 1, none⟩ = some (.bool x203001_1) ∧ w'.cell? ⟨gb202, 2, none⟩ = some (.bool x203002_1) ∧ w'.cell? ⟨gb183, 0, none⟩ = some (.slice A0_0 l0_0.length c0_0) ∧ w'.cell? ⟨gb183, 1, none⟩ = some (.slice A0_1 l0_1.length c0_1) ∧ w'.cell? ⟨gb204, 0, none⟩ = some (.int .i64 ((Al l1_8 x45_1).f0)) ∧ w'.cell? ⟨gb204, 1, none⟩ = some (.string ((Al l1_8 x45_1).f1)) ∧ w'.cell? ⟨gb204, 2, none⟩ = some (.int .i64 ((Al l1_8 x45_1).f2)) ∧ w'.cell? ⟨gb204, 3, none⟩ = some (.bool ((Al l1_8 x45_1).f3.f0)) ∧ w'.cell? ⟨gb204, 4, none⟩ = some (.int .i64 ((Al l1_8 x45_1).f3.f1)) ∧ w'.cell? ⟨gb204, 5, none⟩ = some (.string ((Al l1_8 x45_1).f3.f2)) ∧ w'.cell? ⟨gb204, 6, none⟩ = some (.int .i64 ((Al l1_8 x45_1).f4)) ∧ w'.cell? ⟨gb204, 7, none⟩ = some (.string ((Al l1_8 x45_1).f5)) ∧ w'.cell? ⟨gb204, 8, none⟩ = some (.slice A203_8 ((Al l1_8 x45_1).f6).length c203_8)) (ds := [6]) #[false, false, false, false, false, false, false] (by kernel_rfl) rfl rfl ⟨(Ab BK202.out 0).trans rfl, (Ab BK202.out 1).trans rfl, (Ab BK202.out 2).trans rfl, (Ab BK183.out 0).trans rfl, (Ab BK183.out 1).trans rfl, (Ab BK204.out 0).trans rfl, (Ab BK204.out 1).trans rfl, (Ab BK204.out 2).trans rfl, (Ab BK204.out 3).trans rfl, (Ab BK204.out 4).trans rfl, (Ab BK204.out 5).trans rfl, (Ab BK204.out 6).trans rfl, (Ab BK204.out 7).trans rfl, (Ab BK204.out 8).trans rfl⟩ (fun hHeld => ?_)
 generalize w82.drew = w83 at BK183 BK184 BK185 BK202 BK204 HB hHeld ⊢
 refine take_ (i := 0) (N := some 49) (v := ?_) (a' := ?_) #[true, false, false, false, false, false, false] rfl rfl (by kernel_rfl) (fun _ _ _ h => h) (Or.inl ⟨by rfl, ?_⟩) hHeld ?_ ?_
 rotate_left
 ·(
 rintro w' ⟨s0, s1, s2, s3, s4, s5, s6, s7, s8, s9, s10, s11, s12, s13⟩
 go_simp
 with_reducible rfl)
 rotate_left
 ·(
 simp only [Act.put, List.setIfInBounds_toArray, List.set_cons_zero, List.set_cons_succ, i64_w, i32_w]
 rfl)
 refine take_ (i := 1) (N := some 50) (v := ?_) (a' := ?_) #[true, true, false, false, false, false, false] rfl rfl (by kernel_rfl) (fun _ _ _ h => h) (Or.inl ⟨by rfl, ?_⟩) hHeld ?_ ?_
 rotate_left
 ·(
 rintro w' ⟨s0, s1, s2, s3, s4, s5, s6, s7, s8, s9, s10, s11, s12, s13⟩
 go_simp
 with_reducible rfl)
 rotate_left
 ·(
 simp only [Act.put, List.setIfInBounds_toArray, List.set_cons_zero, List.set_cons_succ, i64_w, i32_w]
 rfl)
 refine take_ (i := 2) (N := some 51) (v := ?_) (a' := ?_) #[true, true, true, false, false, false, false] rfl rfl (by kernel_rfl) (fun _ _ _ h => h) (Or.inl ⟨by rfl, ?_⟩) hHeld ?_ ?_
 rotate_left
 ·(
 rintro w' ⟨s0, s1, s2, s3, s4, s5, s6, s7, s8, s9, s10, s11, s12, s13⟩
 go_simp
 with_reducible rfl)
 rotate_left
 ·(
 simp only [Act.put, List.setIfInBounds_toArray, List.set_cons_zero, List.set_cons_succ, i64_w, i32_w]
 rfl)
 refine one_ (i := 3) (N := some 52) #[true, true, true, true, false, false, false] rfl rfl (by kernel_rfl) (by decide) (fun K hK => ?_)
 refine gs_ Try.func29 #[.agg #[.slice A0_0 l0_0.length c0_0, .slice A0_1 l0_1.length c0_1], .agg #[.int .i64 ((Al l1_8 x45_1).f0), .string ((Al l1_8 x45_1).f1), .int .i64 ((Al l1_8 x45_1).f2), .bool ((Al l1_8 x45_1).f3.f0), .int .i64 ((Al l1_8 x45_1).f3.f1), .string ((Al l1_8 x45_1).f3.f2), .int .i64 ((Al l1_8 x45_1).f4), .string ((Al l1_8 x45_1).f5), .slice A203_8 ((Al l1_8 x45_1).f6).length c203_8]] ?_
 with_reducible refine (ih k1 (by have := HK1.out; omega) _ _ l0_0 _ _ l0_1 ((Al l1_8 x45_1).f0) ((Al l1_8 x45_1).f1) ((Al l1_8 x45_1).f2) ((Al l1_8 x45_1).f3.f0) ((Al l1_8 x45_1).f3.f1) ((Al l1_8 x45_1).f3.f2) ((Al l1_8 x45_1).f4) ((Al l1_8 x45_1).f5) _ _ ((Al l1_8 x45_1).f6) t205 t206 t207 _ ?side1 ?side2 ?side3 ?side4 ?side5 ?side6 A73.out).mono ?_
 (case side1 => repeat (first | exact (Kd.C_below HR0_0.out HB.out) | (with_reducible refine Kd.C_alloc ?_ _) | (with_reducible refine Kd.C_drewN ?_ _) | (with_reducible refine Kd.C_drew ?_)))
 (case side2 => exact HC0_0.out)
 (case side3 => repeat (first | exact (Kd.C_below HR0_1.out HB.out) | (with_reducible refine Kd.C_alloc ?_ _) | (with_reducible refine Kd.C_drewN ?_ _) | (with_reducible refine Kd.C_drew ?_)))
 (case side4 => exact HC0_1.out)
 (case side5 => repeat (first | exact (Kd.C_below HR203_8.out HB.out) | (with_reducible refine Kd.C_alloc ?_ _) | (with_reducible refine Kd.C_drewN ?_ _) | (with_reducible refine Kd.C_drew ?_)))
 (case side6 => exact HC203_8.out)
 rintro e w84 ⟨rfl, hb⟩
 refine ⟨_, rfl, ?_⟩
 replace BK183 := bk_ BK183 hb; replace BK184 := bk_ BK184 hb; replace BK185 := bk_ BK185 hb; replace BK202 := bk_ BK202 hb; replace BK204 := bk_ BK204 hb; replace HB := bs_ HB hb
 (try clear hb)
 refine hK.out _ _ ⟨(Ab BK202.out 0).trans rfl, (Ab BK202.out 1).trans rfl, (Ab BK202.out 2).trans rfl, (Ab BK183.out 0).trans rfl, (Ab BK183.out 1).trans rfl, (Ab BK204.out 0).trans rfl, (Ab BK204.out 1).trans rfl, (Ab BK204.out 2).trans rfl, (Ab BK204.out 3).trans rfl, (Ab BK204.out 4).trans rfl, (Ab BK204.out 5).trans rfl, (Ab BK204.out 6).trans rfl, (Ab BK204.out 7).trans rfl, (Ab BK204.out 8).trans rfl⟩ (fun hHeld => ?_)
 clear hK K
 refine norm_ (a' := ?_) ?_ ?_
 rotate_left
 ·(
 show Act.put _ (some 52) _ = _
 simp only [Act.put, List.setIfInBounds_toArray, List.set_cons_zero, List.set_cons_succ, i64_w, i32_w]
 rfl)
 refine one_ (i := 4) (N := some 53) #[true, true, true, true, true, false, false] rfl rfl (by kernel_rfl) (by decide) (fun K hK => ?_)
 refine gs_ Try.func51 #[.agg #[.bool t205, .bool t206, .bool t207]] ?_
 with_reducible refine (Cl.calls t205 t206 t207 t208 t209 t210 _ A74.out).mono ?_
 rintro e w85 ⟨rfl, hb⟩
 refine ⟨_, rfl, ?_⟩
 replace BK183 := bk_ BK183 hb; replace BK184 := bk_ BK184 hb; replace BK185 := bk_ BK185 hb; replace BK202 := bk_ BK202 hb; replace BK204 := bk_ BK204 hb; replace HB := bs_ HB hb
 (try clear hb)
 refine hK.out _ _ ⟨(Ab BK202.out 0).trans rfl, (Ab BK202.out 1).trans rfl, (Ab BK202.out 2).trans rfl, (Ab BK183.out 0).trans rfl, (Ab BK183.out 1).trans rfl, (Ab BK204.out 0).trans rfl, (Ab BK204.out 1).trans rfl, (Ab BK204.out 2).trans rfl, (Ab BK204.out 3).trans rfl, (Ab BK204.out 4).trans rfl, (Ab BK204.out 5).trans rfl, (Ab BK204.out 6).trans rfl, (Ab BK204.out 7).trans rfl, (Ab BK204.out 8).trans rfl⟩ (fun hHeld => ?_)
 clear hK K
 refine norm_ (a' := ?_) ?_ ?_
 rotate_left
 ·(
 show Act.put _ (some 53) _ = _
 simp only [Act.put, List.setIfInBounds_toArray, List.set_cons_zero, List.set_cons_succ, i64_w, i32_w]
 rfl)
 refine one_ (i := 5) (N := some 54) #[true, true, true, true, true, true, false] rfl rfl (by kernel_rfl) (by decide) (fun K hK => ?_)
 refine gs_ Try.func52 #[.agg #[.bool x203000_1, .bool x203001_1, .bool x203002_1], .agg #[.bool t208, .bool t209, .bool t210]] ?_
 with_reducible refine (Co.calls x203000_1 x203001_1 x203002_1 t208 t209 t210 t211 t212 t213 _ A75.out).mono ?_
 rintro e w86 ⟨rfl, hb⟩
 refine ⟨_, rfl, ?_⟩
 replace BK183 := bk_ BK183 hb; replace BK184 := bk_ BK184 hb; replace BK185 := bk_ BK185 hb; replace BK202 := bk_ BK202 hb; replace BK204 := bk_ BK204 hb; replace HB := bs_ HB hb
 (try clear hb)
 refine hK.out _ _ ⟨(Ab BK202.out 0).trans rfl, (Ab BK202.out 1).trans rfl, (Ab BK202.out 2).trans rfl, (Ab BK183.out 0).trans rfl, (Ab BK183.out 1).trans rfl, (Ab BK204.out 0).trans rfl, (Ab BK204.out 1).trans rfl, (Ab BK204.out 2).trans rfl, (Ab BK204.out 3).trans rfl, (Ab BK204.out 4).trans rfl, (Ab BK204.out 5).trans rfl, (Ab BK204.out 6).trans rfl, (Ab BK204.out 7).trans rfl, (Ab BK204.out 8).trans rfl⟩ (fun hHeld => ?_)
 clear hK K
 refine norm_ (a' := ?_) ?_ ?_
 rotate_left
 ·(
 show Act.put _ (some 54) _ = _
 simp only [Act.put, List.setIfInBounds_toArray, List.set_cons_zero, List.set_cons_succ, i64_w, i32_w]
 rfl)
 refine last_ (i := 6) (N := none) #[true, true, true, true, true, true, true] rfl rfl (by kernel_rfl) (by decide) (fun K hK => ?_)
 have hs87 : w86.cell? ⟨gb202, 0, none⟩ = some (.bool x203000_1) := (Ab BK202.out 0).trans rfl
 have hfs87 := Bm BK202.out 0
 have hns87_0 := NB183_202.out
 have hns87_1 := NB184_202.out
 have hns87_2 := NB185_202.out
 have hns87_4 := NB204_202.out
 have hms87_0 := NB202_183.out
 have hms87_1 := NB202_184.out
 have hms87_2 := NB202_185.out
 have hms87_4 := NB202_204.out
 have hs88 : w86.cell? ⟨gb202, 1, none⟩ = some (.bool x203001_1) := (Ab BK202.out 1).trans rfl
 have hfs88 := Bm BK202.out 1
 have hns88_0 := NB183_202.out
 have hns88_1 := NB184_202.out
 have hns88_2 := NB185_202.out
 have hns88_4 := NB204_202.out
 have hms88_0 := NB202_183.out
 have hms88_1 := NB202_184.out
 have hms88_2 := NB202_185.out
 have hms88_4 := NB202_204.out
 have hs89 : w86.cell? ⟨gb202, 2, none⟩ = some (.bool x203002_1) := (Ab BK202.out 2).trans rfl
 have hfs89 := Bm BK202.out 2
 have hns89_0 := NB183_202.out
 have hns89_1 := NB184_202.out
 have hns89_2 := NB185_202.out
 have hns89_4 := NB204_202.out
 have hms89_0 := NB202_183.out
 have hms89_1 := NB202_184.out
 have hms89_2 := NB202_185.out
 have hms89_4 := NB202_204.out
 refine skip_ (w1 := ?_) (by rfl) rfl ?_ ?_
 rotate_left
 ·(
 go_simp
 rfl)
 refine hK.out _ _ ?_
 clear hK K
 refine done_ (by kernel_rfl) ?_
 try go_wp2
 go_roundg k1
 case measure => have := HK1.out; omega
 case rel => exact ⟨_, _, _, _, (by first | rfl | (simp; done) | (simp [*]; done)), H', ⟨by have := HK1.out; omega⟩, ⟨by (iterate 3 ((with_reducible repeat (first | refine Ag ?_ _ | refine Af ?_ | refine Ae ?_ _)); refine Bv ?_ NB183_202.out _)); (with_reducible repeat (first | refine Ag ?_ _ | refine Af ?_ | refine Ae ?_ _)); exact BK183.out⟩, ⟨by (iterate 3 ((with_reducible repeat (first | refine Ag ?_ _ | refine Af ?_ | refine Ae ?_ _)); refine Bv ?_ NB184_202.out _)); (with_reducible repeat (first | refine Ag ?_ _ | refine Af ?_ | refine Ae ?_ _)); exact BK184.out⟩, ⟨by (iterate 3 ((with_reducible repeat (first | refine Ag ?_ _ | refine Af ?_ | refine Ae ?_ _)); refine Bv ?_ NB185_202.out _)); (with_reducible repeat (first | refine Ag ?_ _ | refine Af ?_ | refine Ae ?_ _)); exact BK185.out⟩, ⟨by (with_reducible repeat (first | refine Ag ?_ _ | refine Af ?_ | refine Ae ?_ _)); apply Cf; (with_reducible repeat (first | refine Ag ?_ _ | refine Af ?_ | refine Ae ?_ _)); exact BK202.out⟩, ⟨by repeat (first | (with_reducible first | exact HB.out | apply Ak | apply Ah | apply Aj | refine Ao ?_ GE183.out | refine Ao ?_ GE184.out | refine Ao ?_ GE185.out | refine Ao ?_ GE202.out | refine Ao ?_ GE204.out) | exact HB.out)⟩⟩)
 ·(
 rw [if_neg c72] at H
 exact absurd H (by simp)))
 ·(
 rw [if_neg c71] at H
 exact absurd H (by simp)))
 ·(
 rw [if_neg c70] at H
 have c70b0 : decide (x45_1 < (l1_8.length : Int)) = false := decide_eq_false c70
 clear c70
 replace H := Dn H
 obtain ⟨⟨t214, t215, t216⟩, A900, H⟩ := H
 replace H : (some (t214, t215, t216)) = some (r1, r2, r3) := H
 have A90 := Aa.mk A900
 clear A900
 simp only [Option.some.injEq, Prod.mk.injEq] at H
 obtain ⟨rfl, rfl, rfl⟩ := H
 have hnb91 := NB202_183.out
 have hnc91 := NB183_202.out
 have hnb92 := NB202_184.out
 have hnc92 := NB184_202.out
 have hnb93 := NB202_185.out
 have hnc93 := NB185_202.out
 obtain ⟨C94_0, C94_1, C94_2⟩ := cz3_ BK202.out
 obtain ⟨F94_0, F94_1, F94_2⟩ := fz3_ BK202.out
 go_wp2_with (first | ((with_reducible refine Aw (f := 51) rfl ?_); refine gl_ (some 57) rfl Try.func51 #[.agg #[.bool x203000_1, .bool x203001_1, .bool x203002_1]] ?_; (with_reducible refine (Cl.calls x203000_1 x203001_1 x203002_1 t214 t215 t216 _ A90.out).mono ?_); rintro e w95 ⟨rfl, hb⟩; refine ⟨_, rfl, ?_⟩;  replace BK183 := bk_ BK183 hb; replace BK184 := bk_ BK184 hb; replace BK185 := bk_ BK185 hb; replace BK202 := bk_ BK202 hb; replace HB := bs_ HB hb; (try clear hb); (try clear hb2); (try clear hk); (try clear hi); have hnb96 := NB185_183.out; have hnc96 := NB183_185.out; have hnb97 := NB185_184.out; have hnc97 := NB184_185.out; obtain ⟨C98_0, C98_1, C98_2⟩ := zc3_ BK185.out; obtain ⟨F98_0, F98_1, F98_2⟩ := zf3_ BK185.out))
 refine bodyPost_ret (results_cell_row rfl _ _ gb185 35 #[.bool t214, .bool t215, .bool t216] (0, 0) _ rfl (by (with_reducible repeat (first | refine Ag ?_ _ | refine Af ?_ | refine Ae ?_ _)); apply Cf; (with_reducible repeat (first | refine Ag ?_ _ | refine Af ?_ | refine Ae ?_ _)); exact BK185.out) Try.underlying35 rfl (by kernel_rfl)) rfl ?_
 exact en_ HB))))
 ·(
 rw [if_neg c57] at H
 have c57b0 : (a1_0 == 7) = false := Dj c57
 have c57b1 : (a1_0 != 7) = true := Dm c57
 replace H := Dn H
 obtain ⟨⟨t217, t218, t219⟩, A990, H⟩ := H
 replace H : (some (t217, t218, t219)) = some (r1, r2, r3) := H
 have A99 := Aa.mk A990
 clear A990
 simp only [Option.some.injEq, Prod.mk.injEq] at H
 obtain ⟨rfl, rfl, rfl⟩ := H
 go_enter Try.func29, Try.ntmps29
 go_wp2_with (first | (refine bx_ (N := 2) (cs := #[.slice A0_0 l0_0.length c0_0, .slice A0_1 l0_1.length c0_1]) (t := 68) ?_; intro gb183 hg w100 hbox hb; have BK183 := Aa.mk (hbox); have GW183 := ge_ HB hg; have GE183 := ge_ HB hg; replace HB := bs_ HB hb; clear hb hbox hg) | (refine bx_ (N := 3) (cs := #[.int .i64 a1_0, .string a1_1, .int .i64 a1_2, .bool a1_3, .int .i64 a1_4, .string a1_5, .int .i64 a1_6, .string a1_7, .slice A1_8 l1_8.length c1_8]) (t := 27) ?_; intro gb184 hg w101 hbox hb; have BK184 := Aa.mk (hbox); have GW184 := ge_ HB hg; have GE184 := ge_ HB hg; have NB183_184 := lt_ BK183 hg; have NB184_183 := gt_ BK183 hg; replace BK183 := bk_ BK183 hb; replace HB := bs_ HB hb; clear hb hbox hg) | (refine bx_ (N := 4) (cs := #[.bool false, .bool false, .bool false]) (t := 35) ?_; intro gb185 hg w102 hbox hb; have BK185 := Aa.mk (hbox); have GW185 := ge_ HB hg; have GE185 := ge_ HB hg; have NB183_185 := lt_ BK183 hg; have NB185_183 := gt_ BK183 hg; have NB184_185 := lt_ BK184 hg; have NB185_184 := gt_ BK184 hg; replace BK183 := bk_ BK183 hb; replace BK184 := bk_ BK184 hb; replace HB := bs_ HB hb; clear hb hbox hg; have hnb103 := NB184_183.out; have hnc103 := NB183_184.out; have hnb104 := NB184_185.out; have hnc104 := NB185_184.out; obtain ⟨C105_0, C105_1, C105_2, C105_3, C105_4, C105_5, C105_6, C105_7, C105_8⟩ := zc9_ BK184.out; obtain ⟨F105_0, F105_1, F105_2, F105_3, F105_4, F105_5, F105_6, F105_7, F105_8⟩ := zf9_ BK184.out; have hnb106 := NB183_185.out; have hnc106 := NB185_183.out; obtain ⟨C107_0, C107_1⟩ := zc2_ BK183.out; obtain ⟨F107_0, F107_1⟩ := zf2_ BK183.out) | ((with_reducible refine Aw (f := 53) rfl ?_); refine gl_ (some 60) rfl Try.func53 #[.agg #[.slice A0_0 l0_0.length c0_0, .slice A0_1 l0_1.length c0_1], .agg #[.int .i64 a1_0, .string a1_1, .int .i64 a1_2, .bool a1_3, .int .i64 a1_4, .string a1_5, .int .i64 a1_6, .string a1_7, .slice A1_8 l1_8.length c1_8]] ?_; (with_reducible refine (Bh.calls k _ _ l0_0 _ _ l0_1 a1_0 a1_1 a1_2 a1_3 a1_4 a1_5 a1_6 a1_7 _ _ l1_8 t217 t218 t219 _ ?side1 ?side2 ?side3 ?side4 ?side5 ?side6 A99.out).mono ?_); (case side1 => repeat (first | exact (Kd.C_below HR0_0.out HB.out) | (with_reducible refine Kd.C_alloc ?_ _) | (with_reducible refine Kd.C_drewN ?_ _) | (with_reducible refine Kd.C_drew ?_))); (case side2 => exact HC0_0.out); (case side3 => repeat (first | exact (Kd.C_below HR0_1.out HB.out) | (with_reducible refine Kd.C_alloc ?_ _) | (with_reducible refine Kd.C_drewN ?_ _) | (with_reducible refine Kd.C_drew ?_))); (case side4 => exact HC0_1.out); (case side5 => repeat (first | exact (Kd.C_below HR1_8.out HB.out) | (with_reducible refine Kd.C_alloc ?_ _) | (with_reducible refine Kd.C_drewN ?_ _) | (with_reducible refine Kd.C_drew ?_))); (case side6 => exact HC1_8.out); rintro e w108 ⟨rfl, hb⟩; refine ⟨_, rfl, ?_⟩;  replace BK183 := bk_ BK183 hb; replace BK184 := bk_ BK184 hb; replace BK185 := bk_ BK185 hb; replace HB := bs_ HB hb; (try clear hb); (try clear hb2); (try clear hk); (try clear hi); obtain ⟨C109_0, C109_1, C109_2⟩ := zc3_ BK185.out; obtain ⟨F109_0, F109_1, F109_2⟩ := zf3_ BK185.out))
 refine bodyPost_ret (results_cell_row rfl _ _ gb185 35 #[.bool t217, .bool t218, .bool t219] (0, 0) _ rfl (by (with_reducible repeat (first | refine Ag ?_ _ | refine Af ?_ | refine Ae ?_ _)); apply Cf; (with_reducible repeat (first | refine Ag ?_ _ | refine Af ?_ | refine Ae ?_ _)); exact BK185.out) Try.underlying35 rfl (by kernel_rfl)) rfl ?_
 exact en_ HB)))
end Go.Proofs.Ytdedmhmomoejkaa.X
