/- Words and walks for X.pruneSafe_holds, part 11 of the texts that a program of this session laid together. -/
import Derived.Test.YtdedmhmomoejkaaS1
import Derived.Test.YtdedmhmomoejkaaS10
namespace Go.Proofs.Ytdedmhmomoejkaa.X
open Go.RowKit Go.Proofs.YtdedmhmomoejkaaW.PrintWords Go.Proofs.YtdedmhmomoejkaaW.PrintLast Go.Proofs.YtdedmhmomoejkaaW.PrintMore
attribute [local go_sem] max2_int max_two
set_option linter.unusedVariables false
set_option linter.unusedSimpArgs false
mutual
def Ai.l0 : Nat → List Int → List Int → List Bool → Int → Option (Bool)
 | 0, _, _, _, _ => none
 | k + 1, x5, x6, x7, x8 => if x8 < (x5.length : Int) then (if 0 ≤ (wrap64 ((x6.length : Int) + 1)) then (if (wrap64 ((x6.length : Int) + 1) : Int).toNat ≤ 281474976710656 then (Ai.l1 k x5 x6 x7 x8 (List.replicate (wrap64 ((x6.length : Int) + 1) : Int).toNat false) 0) else (none)) else (none)) else (if 0 ≤ (x6.length : Int) then (if (x6.length : Int) < (x7.length : Int) then (some (rdOf false x7 (x6.length : Int))) else (none)) else (none))
def Ai.l1 : Nat → List Int → List Int → List Bool → Int → List Bool → Int → Option (Bool)
 | 0, _, _, _, _, _, _ => none
 | k + 1, x5, x6, x7, x8, x9, x10 => if x10 ≤ (x6.length : Int) then (if 0 ≤ x8 then (if x8 < (x5.length : Int) then (if (rd x5 x8) = 37 then (if 0 ≤ x10 then (if x10 < (x7.length : Int) then (if rdOf false x7 x10 = true then (if x10 < (x9.length : Int) then (Ai.l1 k x5 x6 x7 x8 (x9.set (x10 : Int).toNat true) (wrap64 (x10 + 1))) else (none)) else (if x10 > 0 then (if 0 ≤ (wrap64 (x10 - 1)) then (if (wrap64 (x10 - 1)) < (x9.length : Int) then (if x10 < (x9.length : Int) then (Ai.l1 k x5 x6 x7 x8 (x9.set (x10 : Int).toNat (rdOf false x9 (wrap64 (x10 - 1)))) (wrap64 (x10 + 1))) else (none)) else (none)) else (none)) else (if x10 < (x9.length : Int) then (Ai.l1 k x5 x6 x7 x8 (x9.set (x10 : Int).toNat false) (wrap64 (x10 + 1))) else (none)))) else (none)) else (none)) else (if x10 > 0 then (if 0 ≤ (wrap64 (x10 - 1)) then (if (wrap64 (x10 - 1)) < (x7.length : Int) then (if rdOf false x7 (wrap64 (x10 - 1)) = true then (if (rd x5 x8) = 95 then (if 0 ≤ x10 then (if x10 < (x9.length : Int) then (Ai.l1 k x5 x6 x7 x8 (x9.set (x10 : Int).toNat true) (wrap64 (x10 + 1))) else (none)) else (none)) else (if (wrap64 (x10 - 1)) < (x6.length : Int) then (if 0 ≤ x10 then (if x10 < (x9.length : Int) then (Ai.l1 k x5 x6 x7 x8 (x9.set (x10 : Int).toNat ((rd x5 x8) == (rd x6 (wrap64 (x10 - 1))))) (wrap64 (x10 + 1))) else (none)) else (none)) else (none))) else (if 0 ≤ x10 then (if x10 < (x9.length : Int) then (Ai.l1 k x5 x6 x7 x8 (x9.set (x10 : Int).toNat false) (wrap64 (x10 + 1))) else (none)) else (none))) else (none)) else (none)) else (if 0 ≤ x10 then (if x10 < (x9.length : Int) then (Ai.l1 k x5 x6 x7 x8 (x9.set (x10 : Int).toNat false) (wrap64 (x10 + 1))) else (none)) else (none)))) else (none)) else (none)) else (Ai.l0 k x5 x6 x9 (wrap64 (x8 + 1)))
end
def Ai.f (k : Nat) (a0 : ByteArray) (a1 : ByteArray) : Option (Bool) := (Cg.f a0).bind fun t348 => ((Cg.f a1).bind fun t351 => (if 0 ≤ (wrap64 ((t351.length : Int) + 1)) then (if (wrap64 ((t351.length : Int) + 1) : Int).toNat ≤ 281474976710656 then ((some (List.replicate (wrap64 ((t351.length : Int) + 1) : Int).toNat false : List Bool)).bind fun y354 => (if 0 < (y354.length : Int) then (Ai.l0 k t348 t351 (y354.set (0 : Int).toNat true) 0) else (none))) else (none)) else (none)))
theorem Ai.mono_l : ∀ k, (∀ y0 y1 y2 y3, LeO (Ai.l0 k y0 y1 y2 y3) (Ai.l0 (k + 1) y0 y1 y2 y3)) ∧ (∀ y0 y1 y2 y3 y4 y5, LeO (Ai.l1 k y0 y1 y2 y3 y4 y5) (Ai.l1 (k + 1) y0 y1 y2 y3 y4 y5))
 | 0 => ⟨fun _ _ _ _ r h => by simp [Ai.l0] at h, fun _ _ _ _ _ _ r h => by simp [Ai.l1] at h⟩
 | k + 1 => by
  obtain ⟨ih0, ih1⟩ := Ai.mono_l k
  refine ⟨?_, ?_⟩
  focus intro y0 y1 y2 y3;unfold Ai.l0
  rotate_left
  focus intro y0 y1 y2 y3 y4 y5;unfold Ai.l1
  rotate_left
  all_goals repeat' first|(with_reducible first|exact ih0 _ _ _ _|exact ih1 _ _ _ _ _ _|exact LeO.refl _|exact LeO.none _|refine LeO.ite ?_ ?_|refine LeO.bind ?_ fun _=>?_)|exact ih0 _ _ _ _|exact ih1 _ _ _ _ _ _|exact LeO.none _|refine LeO.ite ?_ ?_|refine LeO.bind ?_ fun _=>?_
theorem Ai.mono : ∀ a0 a1 k, LeO (Ai.f k a0 a1) (Ai.f (k + 1) a0 a1) := by
 intro a0 a1 k
 obtain ⟨ih0, ih1⟩ := Ai.mono_l k
 unfold Ai.f
 repeat' first|(with_reducible first|exact ih0 _ _ _ _|exact ih1 _ _ _ _ _ _|exact LeO.refl _|exact LeO.none _|refine LeO.ite ?_ ?_|refine LeO.bind ?_ fun _=>?_)|exact ih0 _ _ _ _|exact ih1 _ _ _ _ _ _|exact LeO.none _|refine LeO.ite ?_ ?_|refine LeO.bind ?_ fun _=>?_
def Ai.T13 : Bool × List (List Nat × List Nat) := (true, [([], []), ([], []), ([], []), ([2], [2]), ([3], [3]), ([4], [4]), ([4], [4]), ([6, 4], [4, 6]), ([5, 7, 4], [4, 5, 7]), ([8, 4], [4, 8]), ([4, 9], [4, 9]), ([10, 4], [10]), ([11], [11]), ([11], [11]), ([12, 13, 11], [11, 12, 13]), ([14, 11], [11, 14]), ([15, 11], [11, 15]), ([16, 11, 11], [11, 16]), ([17], [17]), ([17], [17]), ([18, 19, 17], [17, 18, 19]), ([20, 17], [17, 20]), ([17], [17]), ([17], [17]), ([23, 17], [17, 23]), ([22, 24, 17], [17, 22, 24]), ([25, 17], [17, 25]), ([21, 26, 17], [17, 21, 26]), ([17, 27, 11], [11, 17, 27]), ([11, 28], [11, 28]), ([0, 1, 0, 1, 2, 3, 4, 5, 6, 7, 8, 9, 10, 11, 12, 13, 14, 15, 16, 17, 18, 19, 20, 21, 22, 23, 24, 25, 26, 27, 28, 29], [0, 1]), ([30, 29, 17, 0, 1, 2, 3, 4, 5, 6, 7, 8, 9, 10, 11, 12, 13, 14, 15, 16, 17, 18, 19, 20, 21, 22, 23, 24, 25, 26, 27, 28, 29], [29, 30])])
def Ai.B13 : List Nat := [0, 0, 0, 4, 12, 28, 28, 92, 252, 508, 1020, 2044, 4092, 4092, 16380, 32764, 65532, 131068, 262140, 262140, 1048572, 2097148, 262140, 262140, 8650748, 29622268, 63176700, 134217724, 268435452, 536870908, 1073741823, 2147483647]
theorem Ai.tab13 : rtab .any (opsOf Try.f39 13) = Ai.T13 := by kernel_rfl
theorem Ai.bits13 : waitsOk Ai.T13.2 Ai.B13 = true := by kernel_rfl
set_option maxHeartbeats 8000000 in
set_option maxRecDepth 100000 in
theorem Ai.calls (k : Nat) (a0 : ByteArray) (a1 : ByteArray) (r : Bool) (w : World) (h : Ai.f k a0 a1 = some r) :
  Calls Try.prog 39 #[.string a0, .string a1] w fun e w' => e = .returned (.bool r) ∧ Below w.heap.size w w' := by
 have HB := Aa.mk (Below.refl w.heap.size w)
 have H : ((Cg.f a0).bind fun t348 => ((Cg.f a1).bind fun t351 => (if 0 ≤ (wrap64 ((t351.length : Int) + 1)) then (if (wrap64 ((t351.length : Int) + 1) : Int).toNat ≤ 281474976710656 then ((some (List.replicate (wrap64 ((t351.length : Int) + 1) : Int).toNat false : List Bool)).bind fun y354 => (if 0 < (y354.length : Int) then (Ai.l0 k t348 t351 (y354.set (0 : Int).toNat true) 0) else (none))) else (none)) else (none)))) = some r := h
 clear h
 replace H := Dn H
 obtain ⟨t348, A30, H⟩ := H
 replace H : ((Cg.f a1).bind fun t351 => (if 0 ≤ (wrap64 ((t351.length : Int) + 1)) then (if (wrap64 ((t351.length : Int) + 1) : Int).toNat ≤ 281474976710656 then ((some (List.replicate (wrap64 ((t351.length : Int) + 1) : Int).toNat false : List Bool)).bind fun y354 => (if 0 < (y354.length : Int) then (Ai.l0 k t348 t351 (y354.set (0 : Int).toNat true) 0) else (none))) else (none)) else (none))) = some r := H
 have A3 := Aa.mk A30
 clear A30
 replace H := Dn H
 obtain ⟨t351, A40, H⟩ := H
 replace H : (if 0 ≤ (wrap64 ((t351.length : Int) + 1)) then (if (wrap64 ((t351.length : Int) + 1) : Int).toNat ≤ 281474976710656 then ((some (List.replicate (wrap64 ((t351.length : Int) + 1) : Int).toNat false : List Bool)).bind fun y354 => (if 0 < (y354.length : Int) then (Ai.l0 k t348 t351 (y354.set (0 : Int).toNat true) 0) else (none))) else (none)) else (none)) = some r := H
 have A4 := Aa.mk A40
 clear A40
 obtain ⟨ji5, hji5⟩ : ∃ j_ : Int, (wrap64 ((t351.length : Int) + 1)) = j_ := ⟨_, rfl⟩
 replace H : (if 0 ≤ (ji5) then (if (ji5 : Int).toNat ≤ 281474976710656 then ((some (List.replicate (ji5 : Int).toNat false : List Bool)).bind fun y354 => (if 0 < (y354.length : Int) then (Ai.l0 k t348 t351 (y354.set (0 : Int).toNat true) 0) else (none))) else (none)) else (none)) = some r := by first | (rw [hji5] at H; exact H) | (simp only [hji5] at H ⊢; exact H)
 (try rw [hji5] at A3)
 (try rw [hji5] at A4)
 have hji5w : (IntKind.i64.wrap ((t351.length : Int) + 1)) = ji5 := (i64_w _).trans hji5
 by_cases c6 : 0 ≤ (ji5)
 ·(
 rw [if_pos c6] at H
 have c6b0 := eq_true c6
 have c6b1 : decide (0 ≤ (ji5)) = true := decide_eq_true c6
 clear c6
 by_cases c7 : (ji5 : Int).toNat ≤ 281474976710656
 ·(
 rw [if_pos c7] at H
 have c7b0 := eq_true c7
 have c7b1 : decide ((ji5 : Int).toNat ≤ 281474976710656) = true := decide_eq_true c7
 clear c7
 obtain ⟨y354, hy354⟩ : ∃ y_ : List Bool, y_ = (List.replicate (ji5 : Int).toNat false) := ⟨_, rfl⟩
 replace H : (if 0 < (y354.length : Int) then (Ai.l0 k t348 t351 (y354.set (0 : Int).toNat true) 0) else (none)) = some r := by first | (rw [hy354]; with_reducible exact H) | (have H2_ := (Option.bind_some _ _).symm.trans H; rw [hy354]; with_reducible exact H2_) | (have H2_ := (Option.bind_some _ _).symm.trans H; with_reducible exact H2_) | with_reducible exact H | (rw [hy354]; exact H) | exact H
 have Ny354 := Aa.mk hy354
 clear hy354
 by_cases c8 : 0 < (y354.length : Int)
 ·(
 rw [if_pos c8] at H
 have c8b0 : decide (0 < (y354.length : Int)) = true := decide_eq_true c8
 have c8b1 : decide (0 < y354.length) = true := decide_eq_true (by omega)
 clear c8
 obtain ⟨y357, hy357⟩ : ∃ y_ : List Bool, y_ = (y354.set (0 : Int).toNat true) := ⟨_, rfl⟩
 replace H : (Ai.l0 k t348 t351 y357 0) = some r := by first | (rw [hy357]; with_reducible exact H) | (have H2_ := (Option.bind_some _ _).symm.trans H; rw [hy357]; with_reducible exact H2_) | (have H2_ := (Option.bind_some _ _).symm.trans H; with_reducible exact H2_) | with_reducible exact H | (rw [hy357]; exact H) | exact H
 have Ny357 := Aa.mk hy357
 clear hy357
 have H' := Aa.mk H
 clear H
 go_enter Try.func39, Try.ntmps39
 go_wp2_with (first | ((with_reducible refine Aw (f := 59) rfl ?_); refine gl_ (some 12) rfl Try.func59 #[.string a0] ?_; (with_reducible refine (Cg.calls a0 t348 _ A3.out).mono ?_); rintro e w10 ⟨v349, rfl, ho0, hb⟩; refine ⟨_, rfl, ?_⟩; have HO350 := Aa.mk (Kd.R_lower ho0 (Ca (by repeat (first | (with_reducible first | exact HB.out | apply Ak | apply Ah | apply Aj) | exact HB.out)))); replace HB := bs_ HB hb; (try clear hb); (try clear hb2); (try clear hk); (try clear hi); (try clear ho0)) | ((with_reducible refine Aw (f := 59) rfl ?_); refine gl_ (some 14) rfl Try.func59 #[.string a1] ?_; (with_reducible refine (Cg.calls a1 t351 _ A4.out).mono ?_); rintro e w11 ⟨v352, rfl, ho0, hb⟩; refine ⟨_, rfl, ?_⟩; have n0_ := Aa.mk (Kd.R_elder' (by (with_reducible repeat (first | apply Kd.R_alloc | apply Kd.R_drewN | apply Kd.R_drew)); exact HO350.out) (Kd.R_base ho0) hb); have n1_ := Aa.mk (Kd.R_lower (Kd.R_new' ho0 (Kd.R_lt (by (with_reducible repeat (first | apply Kd.R_alloc | apply Kd.R_drewN | apply Kd.R_drew)); exact HO350.out))) (Ca (by repeat (first | (with_reducible first | exact HB.out | apply Ak | apply Ah | apply Aj) | exact HB.out)))); have n2_ := bs_ HB hb; clear HO350; clear HB; have HO350 := n0_; have HO353 := n1_; have HB := n2_; clear n0_ n1_ n2_; (try clear hb); (try clear hb2); (try clear hk); (try clear hi); (try clear ho0); obtain ⟨Ao12, co12, eo12⟩ := Kd.R_slice HO353.out; subst eo12) | ((with_reducible refine Cv (N := 18) rfl ?_); refine Kd.R_make Kd.bool _ 4 rfl (N := 18) rfl 95 _ _ rfl ji5 rfl rfl Try.underlying95 (.bool false) 1 info4 rfl (by decide) (by omega) false (ok := fun _ => True) (okp := fun _ => True) rfl (fun _ hk => hk) trivial (dt_) (Nat.le_trans (Nat.mul_le_mul_right _ (dt_ : ji5.toNat ≤ 281474976710656)) (by omega)) (Below.refl _ _) (Nat.le_refl _) ?_; intro v355 w13 ho14 hb hg_ hnew_; clear hg_ hnew_; (first | rw [← Ny354.out] at ho14 | (simp only [Int.reduceToNat] at ho14; rw [← Ny354.out] at ho14)); have n0_ := Aa.mk (Kd.R_below (by (with_reducible repeat (first | apply Kd.R_alloc | apply Kd.R_drewN | apply Kd.R_drew)); exact HO350.out) hb); have n1_ := Aa.mk (Kd.R_below (by (with_reducible repeat (first | apply Kd.R_alloc | apply Kd.R_drewN | apply Kd.R_drew)); exact HO353.out) hb); have n2_ := Aa.mk (Kd.R_lower ho14 (Ca (by repeat (first | (with_reducible first | exact HB.out | apply Ak | apply Ah | apply Aj) | exact HB.out)))); have n3_ := bs_ HB hb; clear HO350; clear HO353; clear HB; have HO350 := n0_; have HO353 := n1_; have HO356 := n2_; have HB := n3_; clear n0_ n1_ n2_ n3_; clear hb ho14; have p9 : 0 ≤ (0 : Int) := (by omega); have q9 : (0 : Int) < ((y354.length : Int) : Int) := dt_; have qi9 : (0 < y354.length) = True := eq_true (by omega); obtain ⟨go9, co9, eo9, gb9, gl9, cl9, HG9⟩ := Kd.R_form HO356.out (by omega); (first | cases eo9 | (injection eo9 with ea_ en_ ec_; (first | subst ea_ | (injection ea_ with ea_; subst ea_)); subst ec_; clear en_)); have GB9 := Aa.mk gb9; have GG9 := Aa.mk HG9; clear gb9 gl9 HG9; obtain ⟨hx9_0, hf9_0⟩ := Kd.R_celln false HO356.out (0 : Int) p9 q9; (try rw [show ((0 : Int)).toNat = 0 from rfl] at hx9_0); (try simp only [Nat.reduceMul, Nat.zero_mul, Nat.zero_add, Nat.reduceAdd] at hx9_0); (try rw [show ((0 : Int)).toNat = 0 from rfl] at hf9_0); (try simp only [Nat.reduceMul, Nat.zero_mul, Nat.zero_add, Nat.reduceAdd] at hf9_0); replace p9 := eq_true p9; replace q9 := eq_true q9; obtain ⟨hy15_, hz15_⟩ := Kd.R_celln false HO356.out (0 : Int) (by omega) (dt_); (try simp only [Int.reduceToNat, Int.toNat_zero, Int.toNat_ofNat, Nat.reduceMul, Nat.zero_mul, Nat.zero_add] at hy15_ hz15_); (try rw [show ((0 : Int)).toNat = 0 from rfl] at hy15_); (try rw [show ((0 : Int)).toNat = 0 from rfl] at hz15_); have HP15 := Kd.R_putg HO356.out (0 : Int) true) | ((with_reducible refine gate_store (t := 4) (p := 20) rfl ?_); refine store_event (t := 4) (p := 20) (v := ?vo_w16) (w1 := (w13.setCell ⟨go9, (0 : Int).toNat, none⟩ (.bool true))) ?hg ?ho ?hn ?hr ?_; (case ho => rfl); (case hg => rfl); (case hn => rfl); (case hr => first | (go_simp; done) | (go_simp; rfl)); intro w16 hw; have hg : w13.grownBy w16 (some go9) := (by rw [hw]; exact HP15.2); have hp_ : Kd.R Kd.bool 4 w16 w.heap.size (fun _ => True) (.slice (some ⟨go9, 0, none⟩) y354.length co9) y357 := (by rw [hw, Ny357.out]; exact HP15.1); clear HP15; have n0_ := Aa.mk (Kd.R_over' (v := (.slice (some ⟨go9, 0, none⟩) y354.length co9)) (by (with_reducible repeat (first | apply Kd.R_alloc | apply Kd.R_drewN | apply Kd.R_drew)); exact HO350.out) (Kd.R_typed HO356.out) (by decide) hg); have n1_ := Aa.mk (Kd.R_over' (v := (.slice (some ⟨go9, 0, none⟩) y354.length co9)) (by (with_reducible repeat (first | apply Kd.R_alloc | apply Kd.R_drewN | apply Kd.R_drew)); exact HO353.out) (Kd.R_typed HO356.out) (by decide) hg); have n2_ := Aa.mk (hp_); have n3_ := Aa.mk ((by rw [hw]; exact Ao (HB.out) GB9.out : Below w.heap.size w w16)); clear HO350; clear HO353; clear HO356; clear HB; have HO350 := n0_; have HO353 := n1_; have HO356 := n2_; have HB := n3_; clear n0_ n1_ n2_ n3_; clear hg hw hp_))
 go_loopg [7, 8] k (fun kq v7 v8 w' => ∃ (x7_1 : List Bool) (x8_1 : Int), v8 = .int .i64 x8_1 ∧ Aa (Ai.l0 kq t348 t351 x7_1 x8_1 = some r) ∧ Aa (kq ≤ k) ∧ Aa (Kd.R (Kd.int .i32) 21 w' w.heap.size (fun k_ => some k_ ≠ ((.slice Ao12 t351.length co12) : Value).ownBlock) v349 t348) ∧ Aa (Kd.R (Kd.int .i32) 21 w' w.heap.size (fun k_ => some k_ ≠ (v349 : Value).ownBlock) (.slice Ao12 t351.length co12) t351) ∧ Aa (Kd.R Kd.bool 4 w' w.heap.size (fun _ => True) v7 x7_1) ∧ Aa (Below w.heap.size w w'))
 case atStart => exact ⟨_, _, (by first | rfl | (simp; done) | (simp [*]; done)), H', ⟨Nat.le_refl _⟩, ⟨by (with_reducible repeat (first | apply Kd.R_alloc | apply Kd.R_drewN | apply Kd.R_drew)); exact Kd.R_mono HO350.out (fun _ hk => hk.2)⟩, ⟨by (with_reducible repeat (first | apply Kd.R_alloc | apply Kd.R_drewN | apply Kd.R_drew)); exact Kd.R_mono HO353.out (fun _ hk => hk.2)⟩, ⟨by (with_reducible repeat (first | apply Kd.R_alloc | apply Kd.R_drewN | apply Kd.R_drew)); exact HO356.out⟩, ⟨by repeat (first | (with_reducible first | exact HB.out | apply Ak | apply Ah | apply Aj) | exact HB.out)⟩⟩
 case round =>(
 clear H'
 try clear c6
 try clear c6b0
 try clear c6b1
 try clear c7
 try clear c7b0
 try clear c7b1
 try clear c8
 try clear c8b0
 try clear c8b1
 try clear p9
 try clear q9
 try clear qi9
 try clear hx9_0
 obtain ⟨x7_1, x8_1, rfl, HA, HK1, HO_5, HO_6, HO_7, HB⟩ := hrel
 cases gk with
 | zero => exact absurd HA.out (by simp [Ai.l0])
 | succ k1 =>(
 have H := HA.out
 clear HA
 simp only [Ai.l0] at H
 by_cases c17 : x8_1 < (t348.length : Int)
 ·(
 rw [if_pos c17] at H
 have c17b0 : decide (x8_1 < (t348.length : Int)) = true := decide_eq_true c17
 clear c17
 obtain ⟨ji18, hji18⟩ : ∃ j_ : Int, (wrap64 ((t351.length : Int) + 1)) = j_ := ⟨_, rfl⟩
 replace H : (if 0 ≤ (ji18) then (if (ji18 : Int).toNat ≤ 281474976710656 then (Ai.l1 k1 t348 t351 x7_1 x8_1 (List.replicate (ji18 : Int).toNat false) 0) else (none)) else (none)) = some r := by first | (rw [hji18] at H; exact H) | (simp only [hji18] at H ⊢; exact H)
 have hji18w : (IntKind.i64.wrap ((t351.length : Int) + 1)) = ji18 := (i64_w _).trans hji18
 clear hji5w
 by_cases c19 : 0 ≤ (ji18)
 ·(
 rw [if_pos c19] at H
 have c19b0 := eq_true c19
 have c19b1 : decide (0 ≤ (ji18)) = true := decide_eq_true c19
 clear c19
 by_cases c20 : (ji18 : Int).toNat ≤ 281474976710656
 ·(
 rw [if_pos c20] at H
 have c20b0 := eq_true c20
 have c20b1 : decide ((ji18 : Int).toNat ≤ 281474976710656) = true := decide_eq_true c20
 clear c20
 obtain ⟨y359, hy359⟩ : ∃ y_ : List Bool, y_ = (List.replicate (ji18 : Int).toNat false) := ⟨_, rfl⟩
 replace H : (Ai.l1 k1 t348 t351 x7_1 x8_1 y359 0) = some r := by first | (rw [hy359]; with_reducible exact H) | (have H2_ := (Option.bind_some _ _).symm.trans H; rw [hy359]; with_reducible exact H2_) | (have H2_ := (Option.bind_some _ _).symm.trans H; with_reducible exact H2_) | with_reducible exact H | (rw [hy359]; exact H) | exact H
 have Ny359 := Aa.mk hy359
 clear hy359
 have H' := Aa.mk H
 clear H
 obtain ⟨Ao21, co21, eo21⟩ := Kd.R_slice HO_5.out
 subst eo21
 go_wp2_with (first | ((with_reducible refine Cv (N := 30) rfl ?_); refine Kd.R_make Kd.bool _ 4 rfl (N := 30) rfl 95 _ _ rfl ji18 rfl rfl Try.underlying95 (.bool false) 1 info4 rfl (by decide) (by omega) false (ok := fun _ => True) (okp := fun _ => True) rfl (fun _ hk => hk) trivial (dt_) (Nat.le_trans (Nat.mul_le_mul_right _ (dt_ : ji18.toNat ≤ 281474976710656)) (by omega)) (Below.refl _ _) (Nat.le_refl _) ?_; intro v360 w22 ho23 hb hg_ hnew_; clear hg_ hnew_; (first | rw [← Ny359.out] at ho23 | (simp only [Int.reduceToNat] at ho23; rw [← Ny359.out] at ho23)); have n0_ := Aa.mk (Kd.R_below (by (with_reducible repeat (first | apply Kd.R_alloc | apply Kd.R_drewN | apply Kd.R_drew)); exact HO_5.out) hb); have n1_ := Aa.mk (Kd.R_below (by (with_reducible repeat (first | apply Kd.R_alloc | apply Kd.R_drewN | apply Kd.R_drew)); exact HO_6.out) hb); have n2_ := Aa.mk (Kd.R_elder' (by (with_reducible repeat (first | apply Kd.R_alloc | apply Kd.R_drewN | apply Kd.R_drew)); exact HO_7.out) (Kd.R_base ho23) hb); have n3_ := Aa.mk (Kd.R_lower (Kd.R_new' ho23 (Kd.R_lt (by (with_reducible repeat (first | apply Kd.R_alloc | apply Kd.R_drewN | apply Kd.R_drew)); exact HO_7.out))) (Ca (by repeat (first | (with_reducible first | exact HB.out | apply Ak | apply Ah | apply Aj) | exact HB.out)))); have n4_ := bs_ HB hb; clear HO_5; clear HO_6; clear HO_7; clear HB; have HO_5 := n0_; have HO_6 := n1_; have HO_7 := n2_; have HO361 := n3_; have HB := n4_; clear n0_ n1_ n2_ n3_ n4_; clear hb ho23))
 go_loopg [10] k1 (fun kq v10 w' => ∃ (x9_2 : List Bool) (x10_2 : Int), v10 = .int .i64 x10_2 ∧ Aa (Ai.l1 kq t348 t351 x7_1 x8_1 x9_2 x10_2 = some r) ∧ Aa (kq ≤ k1) ∧ Aa (Kd.R (Kd.int .i32) 21 w' w.heap.size (fun k_ => some k_ ≠ ((.slice Ao12 t351.length co12) : Value).ownBlock) (.slice Ao21 t348.length co21) t348) ∧ Aa (Kd.R (Kd.int .i32) 21 w' w.heap.size (fun k_ => some k_ ≠ ((.slice Ao21 t348.length co21) : Value).ownBlock) (.slice Ao12 t351.length co12) t351) ∧ Aa (Kd.R Kd.bool 4 w' w.heap.size (fun k_ => some k_ ≠ (v360 : Value).ownBlock) u7 x7_1) ∧ Aa (Kd.R Kd.bool 4 w' w.heap.size (fun k_ => some k_ ≠ (u7 : Value).ownBlock) v360 x9_2) ∧ Aa (Below w.heap.size w w'))
 case atStart => exact ⟨_, _, (by first | rfl | (simp; done) | (simp [*]; done)), H', ⟨Nat.le_refl _⟩, ⟨by (with_reducible repeat (first | apply Kd.R_alloc | apply Kd.R_drewN | apply Kd.R_drew)); exact HO_5.out⟩, ⟨by (with_reducible repeat (first | apply Kd.R_alloc | apply Kd.R_drewN | apply Kd.R_drew)); exact HO_6.out⟩, ⟨by (with_reducible repeat (first | apply Kd.R_alloc | apply Kd.R_drewN | apply Kd.R_drew)); exact Kd.R_mono HO_7.out (fun _ hk => hk.2)⟩, ⟨by (with_reducible repeat (first | apply Kd.R_alloc | apply Kd.R_drewN | apply Kd.R_drew)); exact Kd.R_mono HO361.out (fun _ hk => hk.2)⟩, ⟨by repeat (first | (with_reducible first | exact HB.out | apply Ak | apply Ah | apply Aj) | exact HB.out)⟩⟩
 case round =>(
 clear H'
 try clear c17
 try clear c17b0
 try clear c19
 try clear c19b0
 try clear c19b1
 try clear c20
 try clear c20b0
 try clear c20b1
 obtain ⟨x9_2, x10_2, rfl, HA, HK2, HO_5, HO_6, HO_7, HO_9, HB⟩ := hrel
 cases gk with
 | zero => exact absurd HA.out (by simp [Ai.l1])
 | succ k2 =>(
 have H := HA.out
 clear HA
 simp only [Ai.l1] at H
 by_cases c24 : x10_2 ≤ (t351.length : Int)
 ·(
 rw [if_pos c24] at H
 have c24b0 : decide (x10_2 ≤ (t351.length : Int)) = true := decide_eq_true c24
 clear c24
 by_cases c25 : 0 ≤ x8_1
 ·(
 rw [if_pos c25] at H
 have c25b0 : decide (0 ≤ x8_1) = true := decide_eq_true c25
 clear c25
 by_cases c26 : x8_1 < (t348.length : Int)
 ·(
 rw [if_pos c26] at H
 have c26b0 : decide (x8_1 < (t348.length : Int)) = true := decide_eq_true c26
 clear c26
 by_cases c27 : (rd t348 x8_1) = 37
 ·(
 rw [if_pos c27] at H
 have c27b0 : ((rd t348 x8_1) == 37) = true := Dl c27
 have c27b1 : ((rd t348 x8_1) != 37) = false := Dk c27
 clear c27
 by_cases c28 : 0 ≤ x10_2
 ·(
 rw [if_pos c28] at H
 have c28b0 : decide (0 ≤ x10_2) = true := decide_eq_true c28
 clear c28
 by_cases c29 : x10_2 < (x7_1.length : Int)
 ·(
 rw [if_pos c29] at H
 have c29b0 : decide (x10_2 < (x7_1.length : Int)) = true := decide_eq_true c29
 clear c29
 obtain ⟨bq30, hbq30⟩ : ∃ b_ : Bool, b_ = (rdOf false x7_1 x10_2) := ⟨_, rfl⟩
 replace H : (if bq30 = true then (if x10_2 < (x9_2.length : Int) then (Ai.l1 k2 t348 t351 x7_1 x8_1 (x9_2.set (x10_2 : Int).toNat true) (wrap64 (x10_2 + 1))) else (none)) else (if x10_2 > 0 then (if 0 ≤ (wrap64 (x10_2 - 1)) then (if (wrap64 (x10_2 - 1)) < (x9_2.length : Int) then (if x10_2 < (x9_2.length : Int) then (Ai.l1 k2 t348 t351 x7_1 x8_1 (x9_2.set (x10_2 : Int).toNat (rdOf false x9_2 (wrap64 (x10_2 - 1)))) (wrap64 (x10_2 + 1))) else (none)) else (none)) else (none)) else (if x10_2 < (x9_2.length : Int) then (Ai.l1 k2 t348 t351 x7_1 x8_1 (x9_2.set (x10_2 : Int).toNat false) (wrap64 (x10_2 + 1))) else (none)))) = some r := by rw [← hbq30] at H; exact H
 have Nbq30 := Aa.mk hbq30
 clear hbq30
 by_cases c31 : bq30 = true
 ·(
 subst c31
 have H1 : (if x10_2 < (x9_2.length : Int) then (Ai.l1 k2 t348 t351 x7_1 x8_1 (x9_2.set (x10_2 : Int).toNat true) (wrap64 (x10_2 + 1))) else (none)) = some r := by rw [if_pos rfl] at H; exact H
 clear H
 have H := H1
 clear H1
 by_cases c32 : x10_2 < (x9_2.length : Int)
 ·(
 rw [if_pos c32] at H
 have c32b0 : decide (x10_2 < (x9_2.length : Int)) = true := decide_eq_true c32
 clear c32
 obtain ⟨y364, hy364⟩ : ∃ y_ : List Bool, y_ = (x9_2.set (x10_2 : Int).toNat true) := ⟨_, rfl⟩
 replace H : (Ai.l1 k2 t348 t351 x7_1 x8_1 y364 (wrap64 (x10_2 + 1))) = some r := by first | (rw [hy364]; with_reducible exact H) | (have H2_ := (Option.bind_some _ _).symm.trans H; rw [hy364]; with_reducible exact H2_) | (have H2_ := (Option.bind_some _ _).symm.trans H; with_reducible exact H2_) | with_reducible exact H | (rw [hy364]; exact H) | exact H
 have Ny364 := Aa.mk hy364
 clear hy364
 have H' := Aa.mk H
 clear H
 have p362 : 0 ≤ (x8_1 : Int) := dt_
 have q362 : x8_1 < (t348.length : Int) := dt_
 obtain ⟨ad362, e362, hx362_0⟩ := Kd.at_int (Kd.R_reads' HO_5.out).2.2 x8_1 p362 q362
 cases e362
 replace p362 := eq_true p362
 replace q362 := eq_true q362
 obtain ⟨Ao34, co34, eo34⟩ := Kd.R_slice HO_7.out
 subst eo34
 have p363 : 0 ≤ (x10_2 : Int) := dt_
 have q363 : x10_2 < (x7_1.length : Int) := dt_
 obtain ⟨ad363, e363, hx363_0⟩ := Kd.at_bool (Kd.R_reads' HO_7.out).2.2 x10_2 p363 q363
 (try rw [← Nbq30.out] at hx363_0)
 cases e363
 replace p363 := eq_true p363
 replace q363 := eq_true q363
 have p33 : 0 ≤ (x10_2 : Int) := dt_
 have q33 : (x10_2 : Int) < ((x9_2.length : Int) : Int) := dt_
 obtain ⟨go33, co33, eo33, gb33, gl33, cl33, HG33⟩ := Kd.R_form HO_9.out (by omega)
 (first | cases eo33 | (injection eo33 with ea_ en_ ec_; (first | subst ea_ | (injection ea_ with ea_; subst ea_)); subst ec_; clear en_))
 have GB33 := Aa.mk gb33
 have GG33 := Aa.mk HG33
 clear gb33 gl33 HG33
 obtain ⟨hx33_0, hf33_0⟩ := Kd.R_celln false HO_9.out (x10_2 : Int) p33 q33
 replace p33 := eq_true p33
 replace q33 := eq_true q33
 have HP35 := Kd.R_putg HO_9.out (x10_2 : Int) true
 go_wp2_with (first | ((with_reducible refine gate_store (t := 4) (p := 59) rfl ?_); refine store_event (t := 4) (p := 59) (v := ?vo_w36) (w1 := (wr.setCell ⟨go33, (x10_2 : Int).toNat, none⟩ (.bool true))) ?hg ?ho ?hn ?hr ?_; (case ho => rfl); (case hg => rfl); (case hn => rfl); (case hr => first | (go_simp; done) | (go_simp; rfl)); intro w36 hw; have hg : wr.grownBy w36 (some go33) := (by rw [hw]; exact HP35.2); have hp_ : Kd.R Kd.bool 4 w36 w.heap.size (fun k_ => some k_ ≠ (.slice (some ad363) x7_1.length co34 : Value).ownBlock) (.slice (some ⟨go33, 0, none⟩) x9_2.length co33) y364 := (by rw [hw, Ny364.out]; exact HP35.1); clear HP35; have n0_ := Aa.mk (Kd.R_over' (v := (.slice (some ⟨go33, 0, none⟩) x9_2.length co33)) (by (with_reducible repeat (first | apply Kd.R_alloc | apply Kd.R_drewN | apply Kd.R_drew)); exact HO_5.out) (Kd.R_typed HO_9.out) (by decide) hg); have n1_ := Aa.mk (Kd.R_over' (v := (.slice (some ⟨go33, 0, none⟩) x9_2.length co33)) (by (with_reducible repeat (first | apply Kd.R_alloc | apply Kd.R_drewN | apply Kd.R_drew)); exact HO_6.out) (Kd.R_typed HO_9.out) (by decide) hg); have n2_ := Aa.mk (Kd.R_after (v := (.slice (some ⟨go33, 0, none⟩) x9_2.length co33)) (v1 := (.slice (some ⟨go33, 0, none⟩) x9_2.length co33)) (ok := (fun _ => True)) (by (with_reducible repeat (first | apply Kd.R_alloc | apply Kd.R_drewN | apply Kd.R_drew)); exact Kd.R_mono HO_7.out (fun _ hk => ⟨trivial, hk⟩)) hg (.inl rfl)); have n3_ := Aa.mk (hp_); have n4_ := Aa.mk ((by rw [hw]; exact Ao (HB.out) GB33.out : Below w.heap.size w w36)); clear HO_5; clear HO_6; clear HO_7; clear HO_9; clear HB; have HO_5 := n0_; have HO_6 := n1_; have HO_7 := n2_; have HO_9 := n3_; have HB := n4_; clear n0_ n1_ n2_ n3_ n4_; clear hg hw hp_))
 go_roundg k2
 case measure => have := HK1.out; have := HK2.out; omega
 case rel => exact ⟨_, _, (by first | rfl | (simp; done) | (simp [*]; done)), H', ⟨by have := HK1.out; have := HK2.out; omega⟩, ⟨by (with_reducible repeat (first | apply Kd.R_alloc | apply Kd.R_drewN | apply Kd.R_drew)); exact HO_5.out⟩, ⟨by (with_reducible repeat (first | apply Kd.R_alloc | apply Kd.R_drewN | apply Kd.R_drew)); exact HO_6.out⟩, ⟨by (with_reducible repeat (first | apply Kd.R_alloc | apply Kd.R_drewN | apply Kd.R_drew)); exact Kd.R_mono HO_7.out (fun _ hk => hk.2)⟩, ⟨by (with_reducible repeat (first | apply Kd.R_alloc | apply Kd.R_drewN | apply Kd.R_drew)); exact HO_9.out⟩, ⟨by repeat (first | (with_reducible first | exact HB.out | apply Ak | apply Ah | apply Aj) | exact HB.out)⟩⟩)
 ·(
 rw [if_neg c32] at H
 exact absurd H (by simp)))
 ·(
 replace c31 := Dq c31
 subst c31
 have H1 : (if x10_2 > 0 then (if 0 ≤ (wrap64 (x10_2 - 1)) then (if (wrap64 (x10_2 - 1)) < (x9_2.length : Int) then (if x10_2 < (x9_2.length : Int) then (Ai.l1 k2 t348 t351 x7_1 x8_1 (x9_2.set (x10_2 : Int).toNat (rdOf false x9_2 (wrap64 (x10_2 - 1)))) (wrap64 (x10_2 + 1))) else (none)) else (none)) else (none)) else (if x10_2 < (x9_2.length : Int) then (Ai.l1 k2 t348 t351 x7_1 x8_1 (x9_2.set (x10_2 : Int).toNat false) (wrap64 (x10_2 + 1))) else (none))) = some r := by rw [if_neg (show ¬ (false = true) by decide)] at H; exact H
 clear H
 have H := H1
 clear H1
 by_cases c37 : x10_2 > 0
 ·(
 rw [if_pos c37] at H
 have c37b0 : decide (0 < x10_2) = true := decide_eq_true c37
 clear c37
 obtain ⟨ji38, hji38⟩ : ∃ j_ : Int, (wrap64 (x10_2 - 1)) = j_ := ⟨_, rfl⟩
 replace H : (if 0 ≤ (ji38) then (if (ji38) < (x9_2.length : Int) then (if x10_2 < (x9_2.length : Int) then (Ai.l1 k2 t348 t351 x7_1 x8_1 (x9_2.set (x10_2 : Int).toNat (rdOf false x9_2 (ji38))) (wrap64 (x10_2 + 1))) else (none)) else (none)) else (none)) = some r := by first | (rw [hji38] at H; exact H) | (simp only [hji38] at H ⊢; exact H)
 have hji38w : (IntKind.i64.wrap (x10_2 - 1)) = ji38 := (i64_w _).trans hji38
 by_cases c39 : 0 ≤ (ji38)
 ·(
 rw [if_pos c39] at H
 have c39b0 : decide (0 ≤ (ji38)) = true := decide_eq_true c39
 clear c39
 by_cases c40 : (ji38) < (x9_2.length : Int)
 ·(
 rw [if_pos c40] at H
 have c40b0 : decide ((ji38) < (x9_2.length : Int)) = true := decide_eq_true c40
 clear c40
 by_cases c41 : x10_2 < (x9_2.length : Int)
 ·(
 rw [if_pos c41] at H
 have c41b0 : decide (x10_2 < (x9_2.length : Int)) = true := decide_eq_true c41
 clear c41
 obtain ⟨y366, hy366⟩ : ∃ y_ : List Bool, y_ = (x9_2.set (x10_2 : Int).toNat (rdOf false x9_2 (ji38))) := ⟨_, rfl⟩
 replace H : (Ai.l1 k2 t348 t351 x7_1 x8_1 y366 (wrap64 (x10_2 + 1))) = some r := by first | (rw [hy366]; with_reducible exact H) | (have H2_ := (Option.bind_some _ _).symm.trans H; rw [hy366]; with_reducible exact H2_) | (have H2_ := (Option.bind_some _ _).symm.trans H; with_reducible exact H2_) | with_reducible exact H | (rw [hy366]; exact H) | exact H
 have Ny366 := Aa.mk hy366
 clear hy366
 have H' := Aa.mk H
 clear H
 have p362 : 0 ≤ (x8_1 : Int) := dt_
 have q362 : x8_1 < (t348.length : Int) := dt_
 obtain ⟨ad362, e362, hx362_0⟩ := Kd.at_int (Kd.R_reads' HO_5.out).2.2 x8_1 p362 q362
 cases e362
 replace p362 := eq_true p362
 replace q362 := eq_true q362
 obtain ⟨Ao43, co43, eo43⟩ := Kd.R_slice HO_7.out
 subst eo43
 have p363 : 0 ≤ (x10_2 : Int) := dt_
 have q363 : x10_2 < (x7_1.length : Int) := dt_
 obtain ⟨ad363, e363, hx363_0⟩ := Kd.at_bool (Kd.R_reads' HO_7.out).2.2 x10_2 p363 q363
 (try rw [← Nbq30.out] at hx363_0)
 cases e363
 replace p363 := eq_true p363
 replace q363 := eq_true q363
 obtain ⟨Ao44, co44, eo44⟩ := Kd.R_slice HO_9.out
 subst eo44
 have p365 : 0 ≤ ((ji38) : Int) := dt_
 have q365 : (ji38) < (x9_2.length : Int) := dt_
 obtain ⟨ad365, e365, hx365_0⟩ := Kd.at_bool (Kd.R_reads' HO_9.out).2.2 (ji38) p365 q365
 (try rw [← Nbq30.out] at hx365_0)
 cases e365
 replace p365 := eq_true p365
 replace q365 := eq_true q365
 have p42 : 0 ≤ (x10_2 : Int) := dt_
 have q42 : (x10_2 : Int) < ((x9_2.length : Int) : Int) := dt_
 obtain ⟨go42, co42, eo42, gb42, gl42, cl42, HG42⟩ := Kd.R_form HO_9.out (by omega)
 (first | cases eo42 | (injection eo42 with ea_ en_ ec_; (first | subst ea_ | (injection ea_ with ea_; subst ea_)); subst ec_; clear en_))
 have GB42 := Aa.mk gb42
 have GG42 := Aa.mk HG42
 clear gb42 gl42 HG42
 (first | simp only [add_plain] at hx365_0 | skip)
 obtain ⟨hx42_0, hf42_0⟩ := Kd.R_celln false HO_9.out (x10_2 : Int) p42 q42
 replace p42 := eq_true p42
 replace q42 := eq_true q42
 have HP45 := Kd.R_putg HO_9.out (x10_2 : Int) (rdOf false x9_2 (ji38))
 go_wp2_with (first | ((with_reducible refine gate_store (t := 4) (p := 59) rfl ?_); refine store_event (t := 4) (p := 59) (v := ?vo_w46) (w1 := (wr.setCell ⟨go42, (x10_2 : Int).toNat, none⟩ (.bool (rdOf false x9_2 (ji38))))) ?hg ?ho ?hn ?hr ?_; (case ho => rfl); (case hg => rfl); (case hn => rfl); (case hr => first | (go_simp; done) | (go_simp; rfl)); intro w46 hw; have hg : wr.grownBy w46 (some go42) := (by rw [hw]; exact HP45.2); have hp_ : Kd.R Kd.bool 4 w46 w.heap.size (fun k_ => some k_ ≠ (.slice (some ad363) x7_1.length co43 : Value).ownBlock) (.slice (some ⟨go42, 0, none⟩) x9_2.length co44) y366 := (by rw [hw, Ny366.out]; exact HP45.1); clear HP45; have n0_ := Aa.mk (Kd.R_over' (v := (.slice (some ⟨go42, 0, none⟩) x9_2.length co44)) (by (with_reducible repeat (first | apply Kd.R_alloc | apply Kd.R_drewN | apply Kd.R_drew)); exact HO_5.out) (Kd.R_typed HO_9.out) (by decide) hg); have n1_ := Aa.mk (Kd.R_over' (v := (.slice (some ⟨go42, 0, none⟩) x9_2.length co44)) (by (with_reducible repeat (first | apply Kd.R_alloc | apply Kd.R_drewN | apply Kd.R_drew)); exact HO_6.out) (Kd.R_typed HO_9.out) (by decide) hg); have n2_ := Aa.mk (Kd.R_after (v := (.slice (some ⟨go42, 0, none⟩) x9_2.length co44)) (v1 := (.slice (some ⟨go42, 0, none⟩) x9_2.length co44)) (ok := (fun _ => True)) (by (with_reducible repeat (first | apply Kd.R_alloc | apply Kd.R_drewN | apply Kd.R_drew)); exact Kd.R_mono HO_7.out (fun _ hk => ⟨trivial, hk⟩)) hg (.inl rfl)); have n3_ := Aa.mk (hp_); have n4_ := Aa.mk ((by rw [hw]; exact Ao (HB.out) GB42.out : Below w.heap.size w w46)); clear HO_5; clear HO_6; clear HO_7; clear HO_9; clear HB; have HO_5 := n0_; have HO_6 := n1_; have HO_7 := n2_; have HO_9 := n3_; have HB := n4_; clear n0_ n1_ n2_ n3_ n4_; clear hg hw hp_))
 go_roundg k2
 case measure => have := HK1.out; have := HK2.out; omega
 case rel => exact ⟨_, _, (by first | rfl | (simp; done) | (simp [*]; done)), H', ⟨by have := HK1.out; have := HK2.out; omega⟩, ⟨by (with_reducible repeat (first | apply Kd.R_alloc | apply Kd.R_drewN | apply Kd.R_drew)); exact HO_5.out⟩, ⟨by (with_reducible repeat (first | apply Kd.R_alloc | apply Kd.R_drewN | apply Kd.R_drew)); exact HO_6.out⟩, ⟨by (with_reducible repeat (first | apply Kd.R_alloc | apply Kd.R_drewN | apply Kd.R_drew)); exact Kd.R_mono HO_7.out (fun _ hk => hk.2)⟩, ⟨by (with_reducible repeat (first | apply Kd.R_alloc | apply Kd.R_drewN | apply Kd.R_drew)); exact HO_9.out⟩, ⟨by repeat (first | (with_reducible first | exact HB.out | apply Ak | apply Ah | apply Aj) | exact HB.out)⟩⟩)
 ·(
 rw [if_neg c41] at H
 exact absurd H (by simp)))
 ·(
 rw [if_neg c40] at H
 exact absurd H (by simp)))
 ·(
 rw [if_neg c39] at H
 exact absurd H (by simp)))
 ·(
 rw [if_neg c37] at H
 have c37b0 : decide (0 < x10_2) = false := decide_eq_false c37
 clear c37
 by_cases c47 : x10_2 < (x9_2.length : Int)
 ·(
 rw [if_pos c47] at H
 have c47b0 : decide (x10_2 < (x9_2.length : Int)) = true := decide_eq_true c47
 clear c47
 obtain ⟨y367, hy367⟩ : ∃ y_ : List Bool, y_ = (x9_2.set (x10_2 : Int).toNat false) := ⟨_, rfl⟩
 replace H : (Ai.l1 k2 t348 t351 x7_1 x8_1 y367 (wrap64 (x10_2 + 1))) = some r := by first | (rw [hy367]; with_reducible exact H) | (have H2_ := (Option.bind_some _ _).symm.trans H; rw [hy367]; with_reducible exact H2_) | (have H2_ := (Option.bind_some _ _).symm.trans H; with_reducible exact H2_) | with_reducible exact H | (rw [hy367]; exact H) | exact H
 have Ny367 := Aa.mk hy367
 clear hy367
 have H' := Aa.mk H
 clear H
 have p362 : 0 ≤ (x8_1 : Int) := dt_
 have q362 : x8_1 < (t348.length : Int) := dt_
 obtain ⟨ad362, e362, hx362_0⟩ := Kd.at_int (Kd.R_reads' HO_5.out).2.2 x8_1 p362 q362
 cases e362
 replace p362 := eq_true p362
 replace q362 := eq_true q362
 obtain ⟨Ao49, co49, eo49⟩ := Kd.R_slice HO_7.out
 subst eo49
 have p363 : 0 ≤ (x10_2 : Int) := dt_
 have q363 : x10_2 < (x7_1.length : Int) := dt_
 obtain ⟨ad363, e363, hx363_0⟩ := Kd.at_bool (Kd.R_reads' HO_7.out).2.2 x10_2 p363 q363
 (try rw [← Nbq30.out] at hx363_0)
 cases e363
 replace p363 := eq_true p363
 replace q363 := eq_true q363
 have p48 : 0 ≤ (x10_2 : Int) := dt_
 have q48 : (x10_2 : Int) < ((x9_2.length : Int) : Int) := dt_
 obtain ⟨go48, co48, eo48, gb48, gl48, cl48, HG48⟩ := Kd.R_form HO_9.out (by omega)
 (first | cases eo48 | (injection eo48 with ea_ en_ ec_; (first | subst ea_ | (injection ea_ with ea_; subst ea_)); subst ec_; clear en_))
 have GB48 := Aa.mk gb48
 have GG48 := Aa.mk HG48
 clear gb48 gl48 HG48
 obtain ⟨hx48_0, hf48_0⟩ := Kd.R_celln false HO_9.out (x10_2 : Int) p48 q48
 replace p48 := eq_true p48
 replace q48 := eq_true q48
 have HP50 := Kd.R_putg HO_9.out (x10_2 : Int) false
 go_wp2_with (first | ((with_reducible refine gate_store (t := 4) (p := 59) rfl ?_); refine store_event (t := 4) (p := 59) (v := ?vo_w51) (w1 := (wr.setCell ⟨go48, (x10_2 : Int).toNat, none⟩ (.bool false))) ?hg ?ho ?hn ?hr ?_; (case ho => rfl); (case hg => rfl); (case hn => rfl); (case hr => first | (go_simp; done) | (go_simp; rfl)); intro w51 hw; have hg : wr.grownBy w51 (some go48) := (by rw [hw]; exact HP50.2); have hp_ : Kd.R Kd.bool 4 w51 w.heap.size (fun k_ => some k_ ≠ (.slice (some ad363) x7_1.length co49 : Value).ownBlock) (.slice (some ⟨go48, 0, none⟩) x9_2.length co48) y367 := (by rw [hw, Ny367.out]; exact HP50.1); clear HP50; have n0_ := Aa.mk (Kd.R_over' (v := (.slice (some ⟨go48, 0, none⟩) x9_2.length co48)) (by (with_reducible repeat (first | apply Kd.R_alloc | apply Kd.R_drewN | apply Kd.R_drew)); exact HO_5.out) (Kd.R_typed HO_9.out) (by decide) hg); have n1_ := Aa.mk (Kd.R_over' (v := (.slice (some ⟨go48, 0, none⟩) x9_2.length co48)) (by (with_reducible repeat (first | apply Kd.R_alloc | apply Kd.R_drewN | apply Kd.R_drew)); exact HO_6.out) (Kd.R_typed HO_9.out) (by decide) hg); have n2_ := Aa.mk (Kd.R_after (v := (.slice (some ⟨go48, 0, none⟩) x9_2.length co48)) (v1 := (.slice (some ⟨go48, 0, none⟩) x9_2.length co48)) (ok := (fun _ => True)) (by (with_reducible repeat (first | apply Kd.R_alloc | apply Kd.R_drewN | apply Kd.R_drew)); exact Kd.R_mono HO_7.out (fun _ hk => ⟨trivial, hk⟩)) hg (.inl rfl)); have n3_ := Aa.mk (hp_); have n4_ := Aa.mk ((by rw [hw]; exact Ao (HB.out) GB48.out : Below w.heap.size w w51)); clear HO_5; clear HO_6; clear HO_7; clear HO_9; clear HB; have HO_5 := n0_; have HO_6 := n1_; have HO_7 := n2_; have HO_9 := n3_; have HB := n4_; clear n0_ n1_ n2_ n3_ n4_; clear hg hw hp_))
 go_roundg k2
 case measure => have := HK1.out; have := HK2.out; omega
 case rel => exact ⟨_, _, (by first | rfl | (simp; done) | (simp [*]; done)), H', ⟨by have := HK1.out; have := HK2.out; omega⟩, ⟨by (with_reducible repeat (first | apply Kd.R_alloc | apply Kd.R_drewN | apply Kd.R_drew)); exact HO_5.out⟩, ⟨by (with_reducible repeat (first | apply Kd.R_alloc | apply Kd.R_drewN | apply Kd.R_drew)); exact HO_6.out⟩, ⟨by (with_reducible repeat (first | apply Kd.R_alloc | apply Kd.R_drewN | apply Kd.R_drew)); exact Kd.R_mono HO_7.out (fun _ hk => hk.2)⟩, ⟨by (with_reducible repeat (first | apply Kd.R_alloc | apply Kd.R_drewN | apply Kd.R_drew)); exact HO_9.out⟩, ⟨by repeat (first | (with_reducible first | exact HB.out | apply Ak | apply Ah | apply Aj) | exact HB.out)⟩⟩)
 ·(
 rw [if_neg c47] at H
 exact absurd H (by simp)))))
 ·(
 rw [if_neg c29] at H
 exact absurd H (by simp)))
 ·(
 rw [if_neg c28] at H
 exact absurd H (by simp)))
 ·(
 rw [if_neg c27] at H
 have c27b0 : ((rd t348 x8_1) == 37) = false := Dj c27
 have c27b1 : ((rd t348 x8_1) != 37) = true := Dm c27
 by_cases c52 : x10_2 > 0
 ·(
 rw [if_pos c52] at H
 have c52b0 : decide (0 < x10_2) = true := decide_eq_true c52
 clear c52
 obtain ⟨ji53, hji53⟩ : ∃ j_ : Int, (wrap64 (x10_2 - 1)) = j_ := ⟨_, rfl⟩
 replace H : (if 0 ≤ (ji53) then (if (ji53) < (x7_1.length : Int) then (if rdOf false x7_1 (ji53) = true then (if (rd t348 x8_1) = 95 then (if 0 ≤ x10_2 then (if x10_2 < (x9_2.length : Int) then (Ai.l1 k2 t348 t351 x7_1 x8_1 (x9_2.set (x10_2 : Int).toNat true) (wrap64 (x10_2 + 1))) else (none)) else (none)) else (if (ji53) < (t351.length : Int) then (if 0 ≤ x10_2 then (if x10_2 < (x9_2.length : Int) then (Ai.l1 k2 t348 t351 x7_1 x8_1 (x9_2.set (x10_2 : Int).toNat ((rd t348 x8_1) == (rd t351 (ji53)))) (wrap64 (x10_2 + 1))) else (none)) else (none)) else (none))) else (if 0 ≤ x10_2 then (if x10_2 < (x9_2.length : Int) then (Ai.l1 k2 t348 t351 x7_1 x8_1 (x9_2.set (x10_2 : Int).toNat false) (wrap64 (x10_2 + 1))) else (none)) else (none))) else (none)) else (none)) = some r := by first | (rw [hji53] at H; exact H) | (simp only [hji53] at H ⊢; exact H)
 have hji53w : (IntKind.i64.wrap (x10_2 - 1)) = ji53 := (i64_w _).trans hji53
 by_cases c54 : 0 ≤ (ji53)
 ·(
 rw [if_pos c54] at H
 have c54b0 : decide (0 ≤ (ji53)) = true := decide_eq_true c54
 clear c54
 by_cases c55 : (ji53) < (x7_1.length : Int)
 ·(
 rw [if_pos c55] at H
 have c55b0 : decide ((ji53) < (x7_1.length : Int)) = true := decide_eq_true c55
 clear c55
 obtain ⟨bq56, hbq56⟩ : ∃ b_ : Bool, b_ = (rdOf false x7_1 (ji53)) := ⟨_, rfl⟩
 replace H : (if bq56 = true then (if (rd t348 x8_1) = 95 then (if 0 ≤ x10_2 then (if x10_2 < (x9_2.length : Int) then (Ai.l1 k2 t348 t351 x7_1 x8_1 (x9_2.set (x10_2 : Int).toNat true) (wrap64 (x10_2 + 1))) else (none)) else (none)) else (if (ji53) < (t351.length : Int) then (if 0 ≤ x10_2 then (if x10_2 < (x9_2.length : Int) then (Ai.l1 k2 t348 t351 x7_1 x8_1 (x9_2.set (x10_2 : Int).toNat ((rd t348 x8_1) == (rd t351 (ji53)))) (wrap64 (x10_2 + 1))) else (none)) else (none)) else (none))) else (if 0 ≤ x10_2 then (if x10_2 < (x9_2.length : Int) then (Ai.l1 k2 t348 t351 x7_1 x8_1 (x9_2.set (x10_2 : Int).toNat false) (wrap64 (x10_2 + 1))) else (none)) else (none))) = some r := by rw [← hbq56] at H; exact H
 have Nbq56 := Aa.mk hbq56
 clear hbq56
 by_cases c57 : bq56 = true
 ·(
 subst c57
 have H1 : (if (rd t348 x8_1) = 95 then (if 0 ≤ x10_2 then (if x10_2 < (x9_2.length : Int) then (Ai.l1 k2 t348 t351 x7_1 x8_1 (x9_2.set (x10_2 : Int).toNat true) (wrap64 (x10_2 + 1))) else (none)) else (none)) else (if (ji53) < (t351.length : Int) then (if 0 ≤ x10_2 then (if x10_2 < (x9_2.length : Int) then (Ai.l1 k2 t348 t351 x7_1 x8_1 (x9_2.set (x10_2 : Int).toNat ((rd t348 x8_1) == (rd t351 (ji53)))) (wrap64 (x10_2 + 1))) else (none)) else (none)) else (none))) = some r := by rw [if_pos rfl] at H; exact H
 clear H
 have H := H1
 clear H1
 by_cases c58 : (rd t348 x8_1) = 95
 ·(
 rw [if_pos c58] at H
 have c58b0 : ((rd t348 x8_1) == 95) = true := Dl c58
 have c58b1 : ((rd t348 x8_1) != 95) = false := Dk c58
 clear c58
 by_cases c59 : 0 ≤ x10_2
 ·(
 rw [if_pos c59] at H
 have c59b0 : decide (0 ≤ x10_2) = true := decide_eq_true c59
 clear c59
 by_cases c60 : x10_2 < (x9_2.length : Int)
 ·(
 rw [if_pos c60] at H
 have c60b0 : decide (x10_2 < (x9_2.length : Int)) = true := decide_eq_true c60
 clear c60
 obtain ⟨y370, hy370⟩ : ∃ y_ : List Bool, y_ = (x9_2.set (x10_2 : Int).toNat true) := ⟨_, rfl⟩
 replace H : (Ai.l1 k2 t348 t351 x7_1 x8_1 y370 (wrap64 (x10_2 + 1))) = some r := by first | (rw [hy370]; with_reducible exact H) | (have H2_ := (Option.bind_some _ _).symm.trans H; rw [hy370]; with_reducible exact H2_) | (have H2_ := (Option.bind_some _ _).symm.trans H; with_reducible exact H2_) | with_reducible exact H | (rw [hy370]; exact H) | exact H
 have Ny370 := Aa.mk hy370
 clear hy370
 have H' := Aa.mk H
 clear H
 have p362 : 0 ≤ (x8_1 : Int) := dt_
 have q362 : x8_1 < (t348.length : Int) := dt_
 obtain ⟨ad362, e362, hx362_0⟩ := Kd.at_int (Kd.R_reads' HO_5.out).2.2 x8_1 p362 q362
 cases e362
 replace p362 := eq_true p362
 replace q362 := eq_true q362
 try go_wp2
 replace HO_5 := Aa.mk (Kd.R_drew HO_5.out); replace HO_6 := Aa.mk (Kd.R_drew HO_6.out); replace HO_7 := Aa.mk (Kd.R_drew HO_7.out); replace HO_9 := Aa.mk (Kd.R_drew HO_9.out); replace HB := Aa.mk (Aj HB.out)
 obtain ⟨Ao63, co63, eo63⟩ := Kd.R_slice HO_7.out
 (first | subst eo63 | (injection eo63 with f1_ f2_ f3_; have f4_ := f1_.symm; have f5_ := f3_.symm; clear f1_ f2_ f3_; subst f4_; subst f5_))
 have p368 : 0 ≤ ((ji53) : Int) := dt_
 have q368 : (ji53) < (x7_1.length : Int) := dt_
 obtain ⟨ad368, e368, hx368_0⟩ := Kd.at_bool (Kd.R_reads' HO_7.out).2.2 (ji53) p368 q368
 (try rw [← Nbq56.out] at hx368_0)
 cases e368
 replace p368 := eq_true p368
 replace q368 := eq_true q368
 have p369 : 0 ≤ (x8_1 : Int) := dt_
 have q369 : x8_1 < (t348.length : Int) := dt_
 obtain ⟨ad369, e369, hx369_0⟩ := Kd.at_int (Kd.R_reads' HO_5.out).2.2 x8_1 p369 q369
 obtain rfl : ad362 = ad369 := (by injection e369)
 replace p369 := eq_true p369
 replace q369 := eq_true q369
 have p61 : 0 ≤ (x10_2 : Int) := dt_
 have q61 : (x10_2 : Int) < ((x9_2.length : Int) : Int) := dt_
 obtain ⟨go61, co61, eo61, gb61, gl61, cl61, HG61⟩ := Kd.R_form HO_9.out (by omega)
 (first | cases eo61 | (injection eo61 with ea_ en_ ec_; (first | subst ea_ | (injection ea_ with ea_; subst ea_)); subst ec_; clear en_))
 have GB61 := Aa.mk gb61
 have GG61 := Aa.mk HG61
 clear gb61 gl61 HG61
 obtain ⟨hx61_0, hf61_0⟩ := Kd.R_celln false HO_9.out (x10_2 : Int) p61 q61
 replace p61 := eq_true p61
 replace q61 := eq_true q61
 have HP64 := Kd.R_putn HO_9.out (x10_2 : Int) true
 rw [← Ny370.out] at HP64
 have HQ64 := Aa.mk HP64
 clear HP64
 refine start_ (n := 32) (S := fun w' => w'.cell? (ad368.add ((ji53)).toNat) = some (.bool true) ∧ w'.cell? (ad362.add (x8_1).toNat) = some (.int .i32 (rd t348 x8_1))) (ds := [31]) #[false, false, false, false, false, false, false, false, false, false, false, false, false, false, false, false, false, false, false, false, false, false, false, false, false, false, false, false, false, false, false, false] (by kernel_rfl) rfl rfl ⟨hx368_0, hx369_0⟩ (fun hHeld => ?_); refine with_tabW Ai.tab13 Ai.bits13 (fun HT_ HW_ => ?_)
 generalize wr.drew = w62 at HO_5 HO_6 HO_7 HO_9 HB GG61 HQ64 hf61_0 hx368_0 hx369_0 hx61_0 hHeld ⊢
 refine pu_ 0 (some 60) (bl_ 32 1) ?_
 refine pu_ 1 (some 61) (bl_ 32 3) ?_
 refine pu_ 2 (some 62) (bl_ 32 7) ?_
 refine pu_ 3 (some 63) (bl_ 32 15) ?_
 refine pu_ 4 (some 64) (bl_ 32 31) ?_
 refine pu_ 5 (some 65) (bl_ 32 63) ?_
 refine pu_ 6 (some 66) (bl_ 32 127) ?_
 refine pu_ 7 (some 67) (bl_ 32 255) ?_
 refine pu_ 8 (some 68) (bl_ 32 511) ?_
 refine ta_ 9 (some 69) (bl_ 32 1023) hHeld ?_
 refine pu_ 10 (some 70) (bl_ 32 2047) ?_
 refine pu_ 11 (some 71) (bl_ 32 4095) ?_
 refine pu_ 12 (some 72) (bl_ 32 8191) ?_
 refine pu_ 13 (some 73) (bl_ 32 16383) ?_
 refine pu_ 14 (some 74) (bl_ 32 32767) ?_
 refine ta_ 15 (some 75) (bl_ 32 65535) hHeld ?_
 refine pu_ 16 (some 76) (bl_ 32 131071) ?_
 refine pu_ 17 (some 77) (bl_ 32 262143) ?_
 refine pure_ (i := 18) (N := some 78) (v := undef) (a' := ?_) #[true, true, true, true, true, true, true, true, true, true, true, true, true, true, true, true, true, true, true, false, false, false, false, false, false, false, false, false, false, false, false, false] rfl rfl (any_of HT_.out (by kernel_rfl)) (fun _ _ _ h => h) (Or.inr ⟨by rfl, rfl⟩) ?_ ?_
 rotate_left
 ·(
 simp only [Act.put, List.setIfInBounds_toArray, List.set_cons_zero, List.set_cons_succ, i64_w, i32_w]
 rfl)
 refine pure_ (i := 19) (N := some 79) (v := undef) (a' := ?_) #[true, true, true, true, true, true, true, true, true, true, true, true, true, true, true, true, true, true, true, true, false, false, false, false, false, false, false, false, false, false, false, false] rfl rfl (any_of HT_.out (by kernel_rfl)) (fun _ _ _ h => h) (Or.inr ⟨by rfl, rfl⟩) ?_ ?_
 rotate_left
 ·(
 simp only [Act.put, List.setIfInBounds_toArray, List.set_cons_zero, List.set_cons_succ, i64_w, i32_w]
 rfl)
 refine pure_ (i := 20) (N := some 80) (v := undef) (a' := ?_) #[true, true, true, true, true, true, true, true, true, true, true, true, true, true, true, true, true, true, true, true, true, false, false, false, false, false, false, false, false, false, false, false] rfl rfl (any_of HT_.out (by kernel_rfl)) (fun _ _ _ h => h) (Or.inr ⟨by rfl, rfl⟩) ?_ ?_
 rotate_left
 ·(
 simp only [Act.put, List.setIfInBounds_toArray, List.set_cons_zero, List.set_cons_succ, i64_w, i32_w]
 rfl)
 refine pure_ (i := 21) (N := some 81) (v := undef) (a' := ?_) #[true, true, true, true, true, true, true, true, true, true, true, true, true, true, true, true, true, true, true, true, true, true, false, false, false, false, false, false, false, false, false, false] rfl rfl (any_of HT_.out (by kernel_rfl)) (fun _ _ _ h => h) (Or.inr ⟨by rfl, rfl⟩) ?_ ?_
 rotate_left
 ·(
 simp only [Act.put, List.setIfInBounds_toArray, List.set_cons_zero, List.set_cons_succ, i64_w, i32_w]
 rfl)
 refine pure_ (i := 22) (N := some 82) (v := undef) (a' := ?_) #[true, true, true, true, true, true, true, true, true, true, true, true, true, true, true, true, true, true, true, true, true, true, true, false, false, false, false, false, false, false, false, false] rfl rfl (any_of HT_.out (by kernel_rfl)) (fun _ _ _ h => h) (Or.inr ⟨by rfl, rfl⟩) ?_ ?_
 rotate_left
 ·(
 simp only [Act.put, List.setIfInBounds_toArray, List.set_cons_zero, List.set_cons_succ, i64_w, i32_w]
 rfl)
 refine pure_ (i := 23) (N := some 83) (v := undef) (a' := ?_) #[true, true, true, true, true, true, true, true, true, true, true, true, true, true, true, true, true, true, true, true, true, true, true, true, false, false, false, false, false, false, false, false] rfl rfl (any_of HT_.out (by kernel_rfl)) (fun _ _ _ h => h) (Or.inr ⟨by rfl, rfl⟩) ?_ ?_
 rotate_left
 ·(
 simp only [Act.put, List.setIfInBounds_toArray, List.set_cons_zero, List.set_cons_succ, i64_w, i32_w]
 rfl)
 refine pure_ (i := 24) (N := some 84) (v := undef) (a' := ?_) #[true, true, true, true, true, true, true, true, true, true, true, true, true, true, true, true, true, true, true, true, true, true, true, true, true, false, false, false, false, false, false, false] rfl rfl (any_of HT_.out (by kernel_rfl)) (fun _ _ _ h => h) (Or.inr ⟨by rfl, rfl⟩) ?_ ?_
 rotate_left
 ·(
 simp only [Act.put, List.setIfInBounds_toArray, List.set_cons_zero, List.set_cons_succ, i64_w, i32_w]
 rfl)
 refine pure_ (i := 25) (N := some 85) (v := undef) (a' := ?_) #[true, true, true, true, true, true, true, true, true, true, true, true, true, true, true, true, true, true, true, true, true, true, true, true, true, true, false, false, false, false, false, false] rfl rfl (any_of HT_.out (by kernel_rfl)) (fun _ _ _ h => h) (Or.inr ⟨by rfl, rfl⟩) ?_ ?_
 rotate_left
 ·(
 simp only [Act.put, List.setIfInBounds_toArray, List.set_cons_zero, List.set_cons_succ, i64_w, i32_w]
 rfl)
 refine pure_ (i := 26) (N := some 86) (v := undef) (a' := ?_) #[true, true, true, true, true, true, true, true, true, true, true, true, true, true, true, true, true, true, true, true, true, true, true, true, true, true, true, false, false, false, false, false] rfl rfl (any_of HT_.out (by kernel_rfl)) (fun _ _ _ h => h) (Or.inr ⟨by rfl, rfl⟩) ?_ ?_
 rotate_left
 ·(
 simp only [Act.put, List.setIfInBounds_toArray, List.set_cons_zero, List.set_cons_succ, i64_w, i32_w]
 rfl)
 refine pure_ (i := 27) (N := some 87) (v := undef) (a' := ?_) #[true, true, true, true, true, true, true, true, true, true, true, true, true, true, true, true, true, true, true, true, true, true, true, true, true, true, true, true, false, false, false, false] rfl rfl (any_of HT_.out (by kernel_rfl)) (fun _ _ _ h => h) (Or.inr ⟨by rfl, rfl⟩) ?_ ?_
 rotate_left
 ·(
 simp only [Act.put, List.setIfInBounds_toArray, List.set_cons_zero, List.set_cons_succ, i64_w, i32_w]
 rfl)
 refine pu_ 28 (some 88) (bl_ 32 536870911) ?_
 refine pu_ 29 (some 89) (bl_ 32 1073741823) ?_
 refine pu_ 30 (some 90) (bl_ 32 2147483647) ?_
 refine last_ (i := 31) (N := none) #[true, true, true, true, true, true, true, true, true, true, true, true, true, true, true, true, true, true, true, true, true, true, true, true, true, true, true, true, true, true, true, true] rfl rfl (one_of HT_.out (by kernel_rfl)) (by decide) (fun K hK => ?_)
 refine skip_ (w1 := ?_) (by rfl) rfl ?_ ?_
 rotate_left
 ·(
 go_simp
 rfl)
 refine hK.out _ _ ?_
 clear hK K
 refine done_ (done_of HT_.out (by kernel_rfl)) ?_
 try go_wp2
 go_roundg k2
 case measure => have := HK1.out; have := HK2.out; omega
 case rel => exact ⟨_, _, (by first | rfl | (simp; done) | (simp [*]; done)), H', ⟨by have := HK1.out; have := HK2.out; omega⟩, ⟨by (with_reducible repeat (first | apply Kd.R_alloc | apply Kd.R_drewN | apply Kd.R_drew)); exact Kd.R_mono (Kd.R_far (p := ⟨go61, (x10_2 : Int).toNat, none⟩) (Kd.R_types HO_5.out GG61.out (by decide)) (fun _ hk => hk.2) (.bool true)) (fun _ hk => hk.1)⟩, ⟨by (with_reducible repeat (first | apply Kd.R_alloc | apply Kd.R_drewN | apply Kd.R_drew)); exact Kd.R_mono (Kd.R_far (p := ⟨go61, (x10_2 : Int).toNat, none⟩) (Kd.R_types HO_6.out GG61.out (by decide)) (fun _ hk => hk.2) (.bool true)) (fun _ hk => hk.1)⟩, ⟨by (with_reducible repeat (first | apply Kd.R_alloc | apply Kd.R_drewN | apply Kd.R_drew)); exact Kd.R_mono (Kd.R_far (p := ⟨go61, (x10_2 : Int).toNat, none⟩) (Kd.R_mono HO_7.out (fun k_ hk => (⟨hk, fun e_ => hk (by rw [e_]; rfl)⟩ : _ ∧ k_ ≠ go61))) (fun _ hk => hk.2) (.bool true)) (fun _ hk => hk.1)⟩, ⟨by (with_reducible repeat (first | apply Kd.R_alloc | apply Kd.R_drewN | apply Kd.R_drew)); exact HQ64.out⟩, ⟨by repeat (first | (with_reducible first | exact HB.out | apply Ak | apply Ah | apply Aj | refine Ao ?_ GB61.out) | exact HB.out)⟩⟩)
 ·(
 rw [if_neg c60] at H
 exact absurd H (by simp)))
 ·(
 rw [if_neg c59] at H
 exact absurd H (by simp)))
 ·(
 rw [if_neg c58] at H
 have c58b0 : ((rd t348 x8_1) == 95) = false := Dj c58
 have c58b1 : ((rd t348 x8_1) != 95) = true := Dm c58
 by_cases c65 : (ji53) < (t351.length : Int)
 ·(
 rw [if_pos c65] at H
 have c65b0 : decide ((ji53) < (t351.length : Int)) = true := decide_eq_true c65
 clear c65
 by_cases c66 : 0 ≤ x10_2
 ·(
 rw [if_pos c66] at H
 have c66b0 : decide (0 ≤ x10_2) = true := decide_eq_true c66
 clear c66
 by_cases c67 : x10_2 < (x9_2.length : Int)
 ·(
 rw [if_pos c67] at H
 have c67b0 : decide (x10_2 < (x9_2.length : Int)) = true := decide_eq_true c67
 clear c67
 obtain ⟨y373, hy373⟩ : ∃ y_ : List Bool, y_ = (x9_2.set (x10_2 : Int).toNat ((rd t348 x8_1) == (rd t351 (ji53)))) := ⟨_, rfl⟩
 replace H : (Ai.l1 k2 t348 t351 x7_1 x8_1 y373 (wrap64 (x10_2 + 1))) = some r := by first | (rw [hy373]; with_reducible exact H) | (have H2_ := (Option.bind_some _ _).symm.trans H; rw [hy373]; with_reducible exact H2_) | (have H2_ := (Option.bind_some _ _).symm.trans H; with_reducible exact H2_) | with_reducible exact H | (rw [hy373]; exact H) | exact H
 have Ny373 := Aa.mk hy373
 clear hy373
 have H' := Aa.mk H
 clear H
 have p362 : 0 ≤ (x8_1 : Int) := dt_
 have q362 : x8_1 < (t348.length : Int) := dt_
 obtain ⟨ad362, e362, hx362_0⟩ := Kd.at_int (Kd.R_reads' HO_5.out).2.2 x8_1 p362 q362
 cases e362
 replace p362 := eq_true p362
 replace q362 := eq_true q362
 try go_wp2
 replace HO_5 := Aa.mk (Kd.R_drew HO_5.out); replace HO_6 := Aa.mk (Kd.R_drew HO_6.out); replace HO_7 := Aa.mk (Kd.R_drew HO_7.out); replace HO_9 := Aa.mk (Kd.R_drew HO_9.out); replace HB := Aa.mk (Aj HB.out)
 obtain ⟨Ao70, co70, eo70⟩ := Kd.R_slice HO_7.out
 (first | subst eo70 | (injection eo70 with f1_ f2_ f3_; have f4_ := f1_.symm; have f5_ := f3_.symm; clear f1_ f2_ f3_; subst f4_; subst f5_))
 have p368 : 0 ≤ ((ji53) : Int) := dt_
 have q368 : (ji53) < (x7_1.length : Int) := dt_
 obtain ⟨ad368, e368, hx368_0⟩ := Kd.at_bool (Kd.R_reads' HO_7.out).2.2 (ji53) p368 q368
 (try rw [← Nbq56.out] at hx368_0)
 cases e368
 replace p368 := eq_true p368
 replace q368 := eq_true q368
 have p369 : 0 ≤ (x8_1 : Int) := dt_
 have q369 : x8_1 < (t348.length : Int) := dt_
 obtain ⟨ad369, e369, hx369_0⟩ := Kd.at_int (Kd.R_reads' HO_5.out).2.2 x8_1 p369 q369
 obtain rfl : ad362 = ad369 := (by injection e369)
 replace p369 := eq_true p369
 replace q369 := eq_true q369
 have p371 : 0 ≤ (x8_1 : Int) := dt_
 have q371 : x8_1 < (t348.length : Int) := dt_
 obtain ⟨ad371, e371, hx371_0⟩ := Kd.at_int (Kd.R_reads' HO_5.out).2.2 x8_1 p371 q371
 obtain rfl : ad362 = ad371 := (by injection e371)
 replace p371 := eq_true p371
 replace q371 := eq_true q371
 have p372 : 0 ≤ ((ji53) : Int) := dt_
 have q372 : (ji53) < (t351.length : Int) := dt_
 obtain ⟨ad372, e372, hx372_0⟩ := Kd.at_int (Kd.R_reads' HO_6.out).2.2 (ji53) p372 q372
 cases e372
 replace p372 := eq_true p372
 replace q372 := eq_true q372
 have p68 : 0 ≤ (x10_2 : Int) := dt_
 have q68 : (x10_2 : Int) < ((x9_2.length : Int) : Int) := dt_
 obtain ⟨go68, co68, eo68, gb68, gl68, cl68, HG68⟩ := Kd.R_form HO_9.out (by omega)
 (first | cases eo68 | (injection eo68 with ea_ en_ ec_; (first | subst ea_ | (injection ea_ with ea_; subst ea_)); subst ec_; clear en_))
 have GB68 := Aa.mk gb68
 have GG68 := Aa.mk HG68
 clear gb68 gl68 HG68
 obtain ⟨hx68_0, hf68_0⟩ := Kd.R_celln false HO_9.out (x10_2 : Int) p68 q68
 replace p68 := eq_true p68
 replace q68 := eq_true q68
 have HP71 := Kd.R_putn HO_9.out (x10_2 : Int) ((rd t348 x8_1) == (rd t351 (ji53)))
 rw [← Ny373.out] at HP71
 have HQ71 := Aa.mk HP71
 clear HP71
 refine start_ (n := 32) (S := fun w' => w'.cell? (ad368.add ((ji53)).toNat) = some (.bool true) ∧ w'.cell? (ad362.add (x8_1).toNat) = some (.int .i32 (rd t348 x8_1)) ∧ w'.cell? (ad362.add (x8_1).toNat) = some (.int .i32 (rd t348 x8_1)) ∧ w'.cell? (ad372.add ((ji53)).toNat) = some (.int .i32 (rd t351 (ji53)))) (ds := [31]) #[false, false, false, false, false, false, false, false, false, false, false, false, false, false, false, false, false, false, false, false, false, false, false, false, false, false, false, false, false, false, false, false] (by kernel_rfl) rfl rfl ⟨hx368_0, hx369_0, hx371_0, hx372_0⟩ (fun hHeld => ?_); refine with_tabW Ai.tab13 Ai.bits13 (fun HT_ HW_ => ?_)
 generalize wr.drew = w69 at HO_5 HO_6 HO_7 HO_9 HB GG68 HQ71 hf68_0 hx368_0 hx369_0 hx371_0 hx372_0 hx68_0 hHeld ⊢
 refine pu_ 0 (some 60) (bl_ 32 1) ?_
 refine pu_ 1 (some 61) (bl_ 32 3) ?_
 refine pu_ 2 (some 62) (bl_ 32 7) ?_
 refine pu_ 3 (some 63) (bl_ 32 15) ?_
 refine pu_ 4 (some 64) (bl_ 32 31) ?_
 refine pu_ 5 (some 65) (bl_ 32 63) ?_
 refine pu_ 6 (some 66) (bl_ 32 127) ?_
 refine pu_ 7 (some 67) (bl_ 32 255) ?_
 refine pu_ 8 (some 68) (bl_ 32 511) ?_
 refine ta_ 9 (some 69) (bl_ 32 1023) hHeld ?_
 refine pu_ 10 (some 70) (bl_ 32 2047) ?_
 refine pu_ 11 (some 71) (bl_ 32 4095) ?_
 refine pu_ 12 (some 72) (bl_ 32 8191) ?_
 refine pu_ 13 (some 73) (bl_ 32 16383) ?_
 refine pu_ 14 (some 74) (bl_ 32 32767) ?_
 refine ta_ 15 (some 75) (bl_ 32 65535) hHeld ?_
 refine pu_ 16 (some 76) (bl_ 32 131071) ?_
 refine pu_ 17 (some 77) (bl_ 32 262143) ?_
 refine pu_ 18 (some 78) (bl_ 32 524287) ?_
 refine pu_ 19 (some 79) (bl_ 32 1048575) ?_
 refine pu_ 20 (some 80) (bl_ 32 2097151) ?_
 refine pu_ 22 (some 82) (bl_ 32 6291455) ?_
 refine pu_ 23 (some 83) (bl_ 32 14680063) ?_
 refine pu_ 24 (some 84) (bl_ 32 31457279) ?_
 refine pu_ 25 (some 85) (bl_ 32 65011711) ?_
 refine ta_ 21 (some 81) (bl_ 32 67108863) hHeld ?_
 refine ta_ 26 (some 86) (bl_ 32 134217727) hHeld ?_
 refine pu_ 27 (some 87) (bl_ 32 268435455) ?_
 refine pu_ 28 (some 88) (bl_ 32 536870911) ?_
 refine pu_ 29 (some 89) (bl_ 32 1073741823) ?_
 refine pu_ 30 (some 90) (bl_ 32 2147483647) ?_
 refine last_ (i := 31) (N := none) #[true, true, true, true, true, true, true, true, true, true, true, true, true, true, true, true, true, true, true, true, true, true, true, true, true, true, true, true, true, true, true, true] rfl rfl (one_of HT_.out (by kernel_rfl)) (by decide) (fun K hK => ?_)
 refine skip_ (w1 := ?_) (by rfl) rfl ?_ ?_
 rotate_left
 ·(
 go_simp
 rfl)
 refine hK.out _ _ ?_
 clear hK K
 refine done_ (done_of HT_.out (by kernel_rfl)) ?_
 try go_wp2
 go_roundg k2
 case measure => have := HK1.out; have := HK2.out; omega
 case rel => exact ⟨_, _, (by first | rfl | (simp; done) | (simp [*]; done)), H', ⟨by have := HK1.out; have := HK2.out; omega⟩, ⟨by (with_reducible repeat (first | apply Kd.R_alloc | apply Kd.R_drewN | apply Kd.R_drew)); exact Kd.R_mono (Kd.R_far (p := ⟨go68, (x10_2 : Int).toNat, none⟩) (Kd.R_types HO_5.out GG68.out (by decide)) (fun _ hk => hk.2) (.bool ((rd t348 x8_1) == (rd t351 (ji53))))) (fun _ hk => hk.1)⟩, ⟨by (with_reducible repeat (first | apply Kd.R_alloc | apply Kd.R_drewN | apply Kd.R_drew)); exact Kd.R_mono (Kd.R_far (p := ⟨go68, (x10_2 : Int).toNat, none⟩) (Kd.R_types HO_6.out GG68.out (by decide)) (fun _ hk => hk.2) (.bool ((rd t348 x8_1) == (rd t351 (ji53))))) (fun _ hk => hk.1)⟩, ⟨by (with_reducible repeat (first | apply Kd.R_alloc | apply Kd.R_drewN | apply Kd.R_drew)); exact Kd.R_mono (Kd.R_far (p := ⟨go68, (x10_2 : Int).toNat, none⟩) (Kd.R_mono HO_7.out (fun k_ hk => (⟨hk, fun e_ => hk (by rw [e_]; rfl)⟩ : _ ∧ k_ ≠ go68))) (fun _ hk => hk.2) (.bool ((rd t348 x8_1) == (rd t351 (ji53))))) (fun _ hk => hk.1)⟩, ⟨by (with_reducible repeat (first | apply Kd.R_alloc | apply Kd.R_drewN | apply Kd.R_drew)); exact HQ71.out⟩, ⟨by repeat (first | (with_reducible first | exact HB.out | apply Ak | apply Ah | apply Aj | refine Ao ?_ GB68.out) | exact HB.out)⟩⟩)
 ·(
 rw [if_neg c67] at H
 exact absurd H (by simp)))
 ·(
 rw [if_neg c66] at H
 exact absurd H (by simp)))
 ·(
 rw [if_neg c65] at H
 exact absurd H (by simp))))
 ·(
 replace c57 := Dq c57
 subst c57
 have H1 : (if 0 ≤ x10_2 then (if x10_2 < (x9_2.length : Int) then (Ai.l1 k2 t348 t351 x7_1 x8_1 (x9_2.set (x10_2 : Int).toNat false) (wrap64 (x10_2 + 1))) else (none)) else (none)) = some r := by rw [if_neg (show ¬ (false = true) by decide)] at H; exact H
 clear H
 have H := H1
 clear H1
 by_cases c72 : 0 ≤ x10_2
 ·(
 rw [if_pos c72] at H
 have c72b0 : decide (0 ≤ x10_2) = true := decide_eq_true c72
 clear c72
 by_cases c73 : x10_2 < (x9_2.length : Int)
 ·(
 rw [if_pos c73] at H
 have c73b0 : decide (x10_2 < (x9_2.length : Int)) = true := decide_eq_true c73
 clear c73
 obtain ⟨y374, hy374⟩ : ∃ y_ : List Bool, y_ = (x9_2.set (x10_2 : Int).toNat false) := ⟨_, rfl⟩
 replace H : (Ai.l1 k2 t348 t351 x7_1 x8_1 y374 (wrap64 (x10_2 + 1))) = some r := by first | (rw [hy374]; with_reducible exact H) | (have H2_ := (Option.bind_some _ _).symm.trans H; rw [hy374]; with_reducible exact H2_) | (have H2_ := (Option.bind_some _ _).symm.trans H; with_reducible exact H2_) | with_reducible exact H | (rw [hy374]; exact H) | exact H
 have Ny374 := Aa.mk hy374
 clear hy374
 have H' := Aa.mk H
 clear H
 have p362 : 0 ≤ (x8_1 : Int) := dt_
 have q362 : x8_1 < (t348.length : Int) := dt_
 obtain ⟨ad362, e362, hx362_0⟩ := Kd.at_int (Kd.R_reads' HO_5.out).2.2 x8_1 p362 q362
 cases e362
 replace p362 := eq_true p362
 replace q362 := eq_true q362
 try go_wp2
 replace HO_5 := Aa.mk (Kd.R_drew HO_5.out); replace HO_6 := Aa.mk (Kd.R_drew HO_6.out); replace HO_7 := Aa.mk (Kd.R_drew HO_7.out); replace HO_9 := Aa.mk (Kd.R_drew HO_9.out); replace HB := Aa.mk (Aj HB.out)
 obtain ⟨Ao76, co76, eo76⟩ := Kd.R_slice HO_7.out
 (first | subst eo76 | (injection eo76 with f1_ f2_ f3_; have f4_ := f1_.symm; have f5_ := f3_.symm; clear f1_ f2_ f3_; subst f4_; subst f5_))
 have p368 : 0 ≤ ((ji53) : Int) := dt_
 have q368 : (ji53) < (x7_1.length : Int) := dt_
 obtain ⟨ad368, e368, hx368_0⟩ := Kd.at_bool (Kd.R_reads' HO_7.out).2.2 (ji53) p368 q368
 (try rw [← Nbq56.out] at hx368_0)
 cases e368
 replace p368 := eq_true p368
 replace q368 := eq_true q368
 have p74 : 0 ≤ (x10_2 : Int) := dt_
 have q74 : (x10_2 : Int) < ((x9_2.length : Int) : Int) := dt_
 obtain ⟨go74, co74, eo74, gb74, gl74, cl74, HG74⟩ := Kd.R_form HO_9.out (by omega)
 (first | cases eo74 | (injection eo74 with ea_ en_ ec_; (first | subst ea_ | (injection ea_ with ea_; subst ea_)); subst ec_; clear en_))
 have GB74 := Aa.mk gb74
 have GG74 := Aa.mk HG74
 clear gb74 gl74 HG74
 obtain ⟨hx74_0, hf74_0⟩ := Kd.R_celln false HO_9.out (x10_2 : Int) p74 q74
 replace p74 := eq_true p74
 replace q74 := eq_true q74
 have HP77 := Kd.R_putn HO_9.out (x10_2 : Int) false
 rw [← Ny374.out] at HP77
 have HQ77 := Aa.mk HP77
 clear HP77
 refine start_ (n := 32) (S := fun w' => w'.cell? (ad368.add ((ji53)).toNat) = some (.bool false)) (ds := [31]) #[false, false, false, false, false, false, false, false, false, false, false, false, false, false, false, false, false, false, false, false, false, false, false, false, false, false, false, false, false, false, false, false] (by kernel_rfl) rfl rfl (hx368_0) (fun hHeld => ?_); refine with_tabW Ai.tab13 Ai.bits13 (fun HT_ HW_ => ?_)
 generalize wr.drew = w75 at HO_5 HO_6 HO_7 HO_9 HB GG74 HQ77 hf74_0 hx368_0 hx74_0 hHeld ⊢
 refine pu_ 0 (some 60) (bl_ 32 1) ?_
 refine pu_ 1 (some 61) (bl_ 32 3) ?_
 refine pu_ 2 (some 62) (bl_ 32 7) ?_
 refine pu_ 3 (some 63) (bl_ 32 15) ?_
 refine pu_ 4 (some 64) (bl_ 32 31) ?_
 refine pu_ 5 (some 65) (bl_ 32 63) ?_
 refine pu_ 6 (some 66) (bl_ 32 127) ?_
 refine pu_ 7 (some 67) (bl_ 32 255) ?_
 refine pu_ 8 (some 68) (bl_ 32 511) ?_
 refine take_ (i := 9) (N := some 69) (v := ?_) (a' := ?_) #[true, true, true, true, true, true, true, true, true, true, false, false, false, false, false, false, false, false, false, false, false, false, false, false, false, false, false, false, false, false, false, false] rfl rfl (take_ofW HT_.out HW_.out (by kernel_rfl)) (fun _ _ _ h => h) (Or.inl ⟨by rfl, ?_⟩) hHeld ?_ ?_
 rotate_left
 ·(
 intro w' s0
 go_simp
 with_reducible rfl)
 rotate_left
 ·(
 simp only [Act.put, List.setIfInBounds_toArray, List.set_cons_zero, List.set_cons_succ, i64_w, i32_w]
 rfl)
 refine pu_ 10 (some 70) (bl_ 32 2047) ?_
 refine pu_ 11 (some 71) (bl_ 32 4095) ?_
 refine pure_ (i := 12) (N := some 72) (v := undef) (a' := ?_) #[true, true, true, true, true, true, true, true, true, true, true, true, true, false, false, false, false, false, false, false, false, false, false, false, false, false, false, false, false, false, false, false] rfl rfl (any_of HT_.out (by kernel_rfl)) (fun _ _ _ h => h) (Or.inr ⟨by rfl, rfl⟩) ?_ ?_
 rotate_left
 ·(
 simp only [Act.put, List.setIfInBounds_toArray, List.set_cons_zero, List.set_cons_succ, i64_w, i32_w]
 rfl)
 refine pure_ (i := 13) (N := some 73) (v := undef) (a' := ?_) #[true, true, true, true, true, true, true, true, true, true, true, true, true, true, false, false, false, false, false, false, false, false, false, false, false, false, false, false, false, false, false, false] rfl rfl (any_of HT_.out (by kernel_rfl)) (fun _ _ _ h => h) (Or.inr ⟨by rfl, rfl⟩) ?_ ?_
 rotate_left
 ·(
 simp only [Act.put, List.setIfInBounds_toArray, List.set_cons_zero, List.set_cons_succ, i64_w, i32_w]
 rfl)
 refine pure_ (i := 14) (N := some 74) (v := undef) (a' := ?_) #[true, true, true, true, true, true, true, true, true, true, true, true, true, true, true, false, false, false, false, false, false, false, false, false, false, false, false, false, false, false, false, false] rfl rfl (any_of HT_.out (by kernel_rfl)) (fun _ _ _ h => h) (Or.inr ⟨by rfl, rfl⟩) ?_ ?_
 rotate_left
 ·(
 simp only [Act.put, List.setIfInBounds_toArray, List.set_cons_zero, List.set_cons_succ, i64_w, i32_w]
 rfl)
 refine pure_ (i := 15) (N := some 75) (v := undef) (a' := ?_) #[true, true, true, true, true, true, true, true, true, true, true, true, true, true, true, true, false, false, false, false, false, false, false, false, false, false, false, false, false, false, false, false] rfl rfl (any_of HT_.out (by kernel_rfl)) (fun _ _ _ h => h) (Or.inr ⟨by rfl, rfl⟩) ?_ ?_
 rotate_left
 ·(
 simp only [Act.put, List.setIfInBounds_toArray, List.set_cons_zero, List.set_cons_succ, i64_w, i32_w]
 rfl)
 refine pure_ (i := 16) (N := some 76) (v := undef) (a' := ?_) #[true, true, true, true, true, true, true, true, true, true, true, true, true, true, true, true, true, false, false, false, false, false, false, false, false, false, false, false, false, false, false, false] rfl rfl (any_of HT_.out (by kernel_rfl)) (fun _ _ _ h => h) (Or.inr ⟨by rfl, rfl⟩) ?_ ?_
 rotate_left
 ·(
 simp only [Act.put, List.setIfInBounds_toArray, List.set_cons_zero, List.set_cons_succ, i64_w, i32_w]
 rfl)
 refine pure_ (i := 17) (N := some 77) (v := undef) (a' := ?_) #[true, true, true, true, true, true, true, true, true, true, true, true, true, true, true, true, true, true, false, false, false, false, false, false, false, false, false, false, false, false, false, false] rfl rfl (any_of HT_.out (by kernel_rfl)) (fun _ _ _ h => h) (Or.inr ⟨by rfl, rfl⟩) ?_ ?_
 rotate_left
 ·(
 simp only [Act.put, List.setIfInBounds_toArray, List.set_cons_zero, List.set_cons_succ, i64_w, i32_w]
 rfl)
 refine pure_ (i := 18) (N := some 78) (v := undef) (a' := ?_) #[true, true, true, true, true, true, true, true, true, true, true, true, true, true, true, true, true, true, true, false, false, false, false, false, false, false, false, false, false, false, false, false] rfl rfl (any_of HT_.out (by kernel_rfl)) (fun _ _ _ h => h) (Or.inr ⟨by rfl, rfl⟩) ?_ ?_
 rotate_left
 ·(
 simp only [Act.put, List.setIfInBounds_toArray, List.set_cons_zero, List.set_cons_succ, i64_w, i32_w]
 rfl)
 refine pure_ (i := 19) (N := some 79) (v := undef) (a' := ?_) #[true, true, true, true, true, true, true, true, true, true, true, true, true, true, true, true, true, true, true, true, false, false, false, false, false, false, false, false, false, false, false, false] rfl rfl (any_of HT_.out (by kernel_rfl)) (fun _ _ _ h => h) (Or.inr ⟨by rfl, rfl⟩) ?_ ?_
 rotate_left
 ·(
 simp only [Act.put, List.setIfInBounds_toArray, List.set_cons_zero, List.set_cons_succ, i64_w, i32_w]
 rfl)
 refine pure_ (i := 20) (N := some 80) (v := undef) (a' := ?_) #[true, true, true, true, true, true, true, true, true, true, true, true, true, true, true, true, true, true, true, true, true, false, false, false, false, false, false, false, false, false, false, false] rfl rfl (any_of HT_.out (by kernel_rfl)) (fun _ _ _ h => h) (Or.inr ⟨by rfl, rfl⟩) ?_ ?_
 rotate_left
 ·(
 simp only [Act.put, List.setIfInBounds_toArray, List.set_cons_zero, List.set_cons_succ, i64_w, i32_w]
 rfl)
 refine pure_ (i := 21) (N := some 81) (v := undef) (a' := ?_) #[true, true, true, true, true, true, true, true, true, true, true, true, true, true, true, true, true, true, true, true, true, true, false, false, false, false, false, false, false, false, false, false] rfl rfl (any_of HT_.out (by kernel_rfl)) (fun _ _ _ h => h) (Or.inr ⟨by rfl, rfl⟩) ?_ ?_
 rotate_left
 ·(
 simp only [Act.put, List.setIfInBounds_toArray, List.set_cons_zero, List.set_cons_succ, i64_w, i32_w]
 rfl)
 refine pure_ (i := 22) (N := some 82) (v := undef) (a' := ?_) #[true, true, true, true, true, true, true, true, true, true, true, true, true, true, true, true, true, true, true, true, true, true, true, false, false, false, false, false, false, false, false, false] rfl rfl (any_of HT_.out (by kernel_rfl)) (fun _ _ _ h => h) (Or.inr ⟨by rfl, rfl⟩) ?_ ?_
 rotate_left
 ·(
 simp only [Act.put, List.setIfInBounds_toArray, List.set_cons_zero, List.set_cons_succ, i64_w, i32_w]
 rfl)
 refine pure_ (i := 23) (N := some 83) (v := undef) (a' := ?_) #[true, true, true, true, true, true, true, true, true, true, true, true, true, true, true, true, true, true, true, true, true, true, true, true, false, false, false, false, false, false, false, false] rfl rfl (any_of HT_.out (by kernel_rfl)) (fun _ _ _ h => h) (Or.inr ⟨by rfl, rfl⟩) ?_ ?_
 rotate_left
 ·(
 simp only [Act.put, List.setIfInBounds_toArray, List.set_cons_zero, List.set_cons_succ, i64_w, i32_w]
 rfl)
 refine pure_ (i := 24) (N := some 84) (v := undef) (a' := ?_) #[true, true, true, true, true, true, true, true, true, true, true, true, true, true, true, true, true, true, true, true, true, true, true, true, true, false, false, false, false, false, false, false] rfl rfl (any_of HT_.out (by kernel_rfl)) (fun _ _ _ h => h) (Or.inr ⟨by rfl, rfl⟩) ?_ ?_
 rotate_left
 ·(
 simp only [Act.put, List.setIfInBounds_toArray, List.set_cons_zero, List.set_cons_succ, i64_w, i32_w]
 rfl)
 refine pure_ (i := 25) (N := some 85) (v := undef) (a' := ?_) #[true, true, true, true, true, true, true, true, true, true, true, true, true, true, true, true, true, true, true, true, true, true, true, true, true, true, false, false, false, false, false, false] rfl rfl (any_of HT_.out (by kernel_rfl)) (fun _ _ _ h => h) (Or.inr ⟨by rfl, rfl⟩) ?_ ?_
 rotate_left
 ·(
 simp only [Act.put, List.setIfInBounds_toArray, List.set_cons_zero, List.set_cons_succ, i64_w, i32_w]
 rfl)
 refine pure_ (i := 26) (N := some 86) (v := undef) (a' := ?_) #[true, true, true, true, true, true, true, true, true, true, true, true, true, true, true, true, true, true, true, true, true, true, true, true, true, true, true, false, false, false, false, false] rfl rfl (any_of HT_.out (by kernel_rfl)) (fun _ _ _ h => h) (Or.inr ⟨by rfl, rfl⟩) ?_ ?_
 rotate_left
 ·(
 simp only [Act.put, List.setIfInBounds_toArray, List.set_cons_zero, List.set_cons_succ, i64_w, i32_w]
 rfl)
 refine pure_ (i := 27) (N := some 87) (v := undef) (a' := ?_) #[true, true, true, true, true, true, true, true, true, true, true, true, true, true, true, true, true, true, true, true, true, true, true, true, true, true, true, true, false, false, false, false] rfl rfl (any_of HT_.out (by kernel_rfl)) (fun _ _ _ h => h) (Or.inr ⟨by rfl, rfl⟩) ?_ ?_
 rotate_left
 ·(
 simp only [Act.put, List.setIfInBounds_toArray, List.set_cons_zero, List.set_cons_succ, i64_w, i32_w]
 rfl)
 refine pure_ (i := 28) (N := some 88) (v := undef) (a' := ?_) #[true, true, true, true, true, true, true, true, true, true, true, true, true, true, true, true, true, true, true, true, true, true, true, true, true, true, true, true, true, false, false, false] rfl rfl (any_of HT_.out (by kernel_rfl)) (fun _ _ _ h => h) (Or.inr ⟨by rfl, rfl⟩) ?_ ?_
 rotate_left
 ·(
 simp only [Act.put, List.setIfInBounds_toArray, List.set_cons_zero, List.set_cons_succ, i64_w, i32_w]
 rfl)
 refine pu_ 29 (some 89) (bl_ 32 1073741823) ?_
 refine pu_ 30 (some 90) (bl_ 32 2147483647) ?_
 refine last_ (i := 31) (N := none) #[true, true, true, true, true, true, true, true, true, true, true, true, true, true, true, true, true, true, true, true, true, true, true, true, true, true, true, true, true, true, true, true] rfl rfl (one_of HT_.out (by kernel_rfl)) (by decide) (fun K hK => ?_)
 refine skip_ (w1 := ?_) (by rfl) rfl ?_ ?_
 rotate_left
 ·(
 go_simp
 rfl)
 refine hK.out _ _ ?_
 clear hK K
 refine done_ (done_of HT_.out (by kernel_rfl)) ?_
 try go_wp2
 go_roundg k2
 case measure => have := HK1.out; have := HK2.out; omega
 case rel => exact ⟨_, _, (by first | rfl | (simp; done) | (simp [*]; done)), H', ⟨by have := HK1.out; have := HK2.out; omega⟩, ⟨by (with_reducible repeat (first | apply Kd.R_alloc | apply Kd.R_drewN | apply Kd.R_drew)); exact Kd.R_mono (Kd.R_far (p := ⟨go74, (x10_2 : Int).toNat, none⟩) (Kd.R_types HO_5.out GG74.out (by decide)) (fun _ hk => hk.2) (.bool false)) (fun _ hk => hk.1)⟩, ⟨by (with_reducible repeat (first | apply Kd.R_alloc | apply Kd.R_drewN | apply Kd.R_drew)); exact Kd.R_mono (Kd.R_far (p := ⟨go74, (x10_2 : Int).toNat, none⟩) (Kd.R_types HO_6.out GG74.out (by decide)) (fun _ hk => hk.2) (.bool false)) (fun _ hk => hk.1)⟩, ⟨by (with_reducible repeat (first | apply Kd.R_alloc | apply Kd.R_drewN | apply Kd.R_drew)); exact Kd.R_mono (Kd.R_far (p := ⟨go74, (x10_2 : Int).toNat, none⟩) (Kd.R_mono HO_7.out (fun k_ hk => (⟨hk, fun e_ => hk (by rw [e_]; rfl)⟩ : _ ∧ k_ ≠ go74))) (fun _ hk => hk.2) (.bool false)) (fun _ hk => hk.1)⟩, ⟨by (with_reducible repeat (first | apply Kd.R_alloc | apply Kd.R_drewN | apply Kd.R_drew)); exact HQ77.out⟩, ⟨by repeat (first | (with_reducible first | exact HB.out | apply Ak | apply Ah | apply Aj | refine Ao ?_ GB74.out) | exact HB.out)⟩⟩)
 ·(
 rw [if_neg c73] at H
 exact absurd H (by simp)))
 ·(
 rw [if_neg c72] at H
 exact absurd H (by simp))))
 ·(
 rw [if_neg c55] at H
 exact absurd H (by simp)))
 ·(
 rw [if_neg c54] at H
 exact absurd H (by simp)))
 ·(
 rw [if_neg c52] at H
 have c52b0 : decide (0 < x10_2) = false := decide_eq_false c52
 clear c52
 by_cases c78 : 0 ≤ x10_2
 ·(
 rw [if_pos c78] at H
 have c78b0 : decide (0 ≤ x10_2) = true := decide_eq_true c78
 clear c78
 by_cases c79 : x10_2 < (x9_2.length : Int)
 ·(
 rw [if_pos c79] at H
 have c79b0 : decide (x10_2 < (x9_2.length : Int)) = true := decide_eq_true c79
 clear c79
 obtain ⟨y375, hy375⟩ : ∃ y_ : List Bool, y_ = (x9_2.set (x10_2 : Int).toNat false) := ⟨_, rfl⟩
 replace H : (Ai.l1 k2 t348 t351 x7_1 x8_1 y375 (wrap64 (x10_2 + 1))) = some r := by first | (rw [hy375]; with_reducible exact H) | (have H2_ := (Option.bind_some _ _).symm.trans H; rw [hy375]; with_reducible exact H2_) | (have H2_ := (Option.bind_some _ _).symm.trans H; with_reducible exact H2_) | with_reducible exact H | (rw [hy375]; exact H) | exact H
 have Ny375 := Aa.mk hy375
 clear hy375
 have H' := Aa.mk H
 clear H
 have p362 : 0 ≤ (x8_1 : Int) := dt_
 have q362 : x8_1 < (t348.length : Int) := dt_
 obtain ⟨ad362, e362, hx362_0⟩ := Kd.at_int (Kd.R_reads' HO_5.out).2.2 x8_1 p362 q362
 cases e362
 replace p362 := eq_true p362
 replace q362 := eq_true q362
 try go_wp2
 replace HO_5 := Aa.mk (Kd.R_drew HO_5.out); replace HO_6 := Aa.mk (Kd.R_drew HO_6.out); replace HO_7 := Aa.mk (Kd.R_drew HO_7.out); replace HO_9 := Aa.mk (Kd.R_drew HO_9.out); replace HB := Aa.mk (Aj HB.out)
 have p80 : 0 ≤ (x10_2 : Int) := dt_
 have q80 : (x10_2 : Int) < ((x9_2.length : Int) : Int) := dt_
 obtain ⟨go80, co80, eo80, gb80, gl80, cl80, HG80⟩ := Kd.R_form HO_9.out (by omega)
 (first | cases eo80 | (injection eo80 with ea_ en_ ec_; (first | subst ea_ | (injection ea_ with ea_; subst ea_)); subst ec_; clear en_))
 have GB80 := Aa.mk gb80
 have GG80 := Aa.mk HG80
 clear gb80 gl80 HG80
 obtain ⟨hx80_0, hf80_0⟩ := Kd.R_celln false HO_9.out (x10_2 : Int) p80 q80
 replace p80 := eq_true p80
 replace q80 := eq_true q80
 have HP82 := Kd.R_putn HO_9.out (x10_2 : Int) false
 rw [← Ny375.out] at HP82
 have HQ82 := Aa.mk HP82
 clear HP82
 refine start_ (n := 32) (S := fun w' => True) (ds := [31]) #[false, false, false, false, false, false, false, false, false, false, false, false, false, false, false, false, false, false, false, false, false, false, false, false, false, false, false, false, false, false, false, false] (by kernel_rfl) rfl rfl trivial (fun hHeld => ?_); refine with_tabW Ai.tab13 Ai.bits13 (fun HT_ HW_ => ?_)
 generalize wr.drew = w81 at HO_5 HO_6 HO_7 HO_9 HB GG80 HQ82 hf80_0 hx80_0 hHeld ⊢
 refine pu_ 0 (some 60) (bl_ 32 1) ?_
 refine pu_ 1 (some 61) (bl_ 32 3) ?_
 refine pu_ 2 (some 62) (bl_ 32 7) ?_
 refine pu_ 3 (some 63) (bl_ 32 15) ?_
 refine pu_ 4 (some 64) (bl_ 32 31) ?_
 refine pure_ (i := 5) (N := some 65) (v := undef) (a' := ?_) #[true, true, true, true, true, true, false, false, false, false, false, false, false, false, false, false, false, false, false, false, false, false, false, false, false, false, false, false, false, false, false, false] rfl rfl (any_of HT_.out (by kernel_rfl)) (fun _ _ _ h => h) (Or.inr ⟨by rfl, rfl⟩) ?_ ?_
 rotate_left
 ·(
 simp only [Act.put, List.setIfInBounds_toArray, List.set_cons_zero, List.set_cons_succ, i64_w, i32_w]
 rfl)
 refine pure_ (i := 6) (N := some 66) (v := undef) (a' := ?_) #[true, true, true, true, true, true, true, false, false, false, false, false, false, false, false, false, false, false, false, false, false, false, false, false, false, false, false, false, false, false, false, false] rfl rfl (any_of HT_.out (by kernel_rfl)) (fun _ _ _ h => h) (Or.inr ⟨by rfl, rfl⟩) ?_ ?_
 rotate_left
 ·(
 simp only [Act.put, List.setIfInBounds_toArray, List.set_cons_zero, List.set_cons_succ, i64_w, i32_w]
 rfl)
 refine pure_ (i := 7) (N := some 67) (v := undef) (a' := ?_) #[true, true, true, true, true, true, true, true, false, false, false, false, false, false, false, false, false, false, false, false, false, false, false, false, false, false, false, false, false, false, false, false] rfl rfl (any_of HT_.out (by kernel_rfl)) (fun _ _ _ h => h) (Or.inr ⟨by rfl, rfl⟩) ?_ ?_
 rotate_left
 ·(
 simp only [Act.put, List.setIfInBounds_toArray, List.set_cons_zero, List.set_cons_succ, i64_w, i32_w]
 rfl)
 refine pure_ (i := 8) (N := some 68) (v := undef) (a' := ?_) #[true, true, true, true, true, true, true, true, true, false, false, false, false, false, false, false, false, false, false, false, false, false, false, false, false, false, false, false, false, false, false, false] rfl rfl (any_of HT_.out (by kernel_rfl)) (fun _ _ _ h => h) (Or.inr ⟨by rfl, rfl⟩) ?_ ?_
 rotate_left
 ·(
 simp only [Act.put, List.setIfInBounds_toArray, List.set_cons_zero, List.set_cons_succ, i64_w, i32_w]
 rfl)
 refine pure_ (i := 9) (N := some 69) (v := undef) (a' := ?_) #[true, true, true, true, true, true, true, true, true, true, false, false, false, false, false, false, false, false, false, false, false, false, false, false, false, false, false, false, false, false, false, false] rfl rfl (any_of HT_.out (by kernel_rfl)) (fun _ _ _ h => h) (Or.inr ⟨by rfl, rfl⟩) ?_ ?_
 rotate_left
 ·(
 simp only [Act.put, List.setIfInBounds_toArray, List.set_cons_zero, List.set_cons_succ, i64_w, i32_w]
 rfl)
 refine pu_ 10 (some 70) (bl_ 32 2047) ?_
 refine pu_ 11 (some 71) (bl_ 32 4095) ?_
 refine pure_ (i := 12) (N := some 72) (v := undef) (a' := ?_) #[true, true, true, true, true, true, true, true, true, true, true, true, true, false, false, false, false, false, false, false, false, false, false, false, false, false, false, false, false, false, false, false] rfl rfl (any_of HT_.out (by kernel_rfl)) (fun _ _ _ h => h) (Or.inr ⟨by rfl, rfl⟩) ?_ ?_
 rotate_left
 ·(
 simp only [Act.put, List.setIfInBounds_toArray, List.set_cons_zero, List.set_cons_succ, i64_w, i32_w]
 rfl)
 refine pure_ (i := 13) (N := some 73) (v := undef) (a' := ?_) #[true, true, true, true, true, true, true, true, true, true, true, true, true, true, false, false, false, false, false, false, false, false, false, false, false, false, false, false, false, false, false, false] rfl rfl (any_of HT_.out (by kernel_rfl)) (fun _ _ _ h => h) (Or.inr ⟨by rfl, rfl⟩) ?_ ?_
 rotate_left
 ·(
 simp only [Act.put, List.setIfInBounds_toArray, List.set_cons_zero, List.set_cons_succ, i64_w, i32_w]
 rfl)
 refine pure_ (i := 14) (N := some 74) (v := undef) (a' := ?_) #[true, true, true, true, true, true, true, true, true, true, true, true, true, true, true, false, false, false, false, false, false, false, false, false, false, false, false, false, false, false, false, false] rfl rfl (any_of HT_.out (by kernel_rfl)) (fun _ _ _ h => h) (Or.inr ⟨by rfl, rfl⟩) ?_ ?_
 rotate_left
 ·(
 simp only [Act.put, List.setIfInBounds_toArray, List.set_cons_zero, List.set_cons_succ, i64_w, i32_w]
 rfl)
 refine pure_ (i := 15) (N := some 75) (v := undef) (a' := ?_) #[true, true, true, true, true, true, true, true, true, true, true, true, true, true, true, true, false, false, false, false, false, false, false, false, false, false, false, false, false, false, false, false] rfl rfl (any_of HT_.out (by kernel_rfl)) (fun _ _ _ h => h) (Or.inr ⟨by rfl, rfl⟩) ?_ ?_
 rotate_left
 ·(
 simp only [Act.put, List.setIfInBounds_toArray, List.set_cons_zero, List.set_cons_succ, i64_w, i32_w]
 rfl)
 refine pure_ (i := 16) (N := some 76) (v := undef) (a' := ?_) #[true, true, true, true, true, true, true, true, true, true, true, true, true, true, true, true, true, false, false, false, false, false, false, false, false, false, false, false, false, false, false, false] rfl rfl (any_of HT_.out (by kernel_rfl)) (fun _ _ _ h => h) (Or.inr ⟨by rfl, rfl⟩) ?_ ?_
 rotate_left
 ·(
 simp only [Act.put, List.setIfInBounds_toArray, List.set_cons_zero, List.set_cons_succ, i64_w, i32_w]
 rfl)
 refine pure_ (i := 17) (N := some 77) (v := undef) (a' := ?_) #[true, true, true, true, true, true, true, true, true, true, true, true, true, true, true, true, true, true, false, false, false, false, false, false, false, false, false, false, false, false, false, false] rfl rfl (any_of HT_.out (by kernel_rfl)) (fun _ _ _ h => h) (Or.inr ⟨by rfl, rfl⟩) ?_ ?_
 rotate_left
 ·(
 simp only [Act.put, List.setIfInBounds_toArray, List.set_cons_zero, List.set_cons_succ, i64_w, i32_w]
 rfl)
 refine pure_ (i := 18) (N := some 78) (v := undef) (a' := ?_) #[true, true, true, true, true, true, true, true, true, true, true, true, true, true, true, true, true, true, true, false, false, false, false, false, false, false, false, false, false, false, false, false] rfl rfl (any_of HT_.out (by kernel_rfl)) (fun _ _ _ h => h) (Or.inr ⟨by rfl, rfl⟩) ?_ ?_
 rotate_left
 ·(
 simp only [Act.put, List.setIfInBounds_toArray, List.set_cons_zero, List.set_cons_succ, i64_w, i32_w]
 rfl)
 refine pure_ (i := 19) (N := some 79) (v := undef) (a' := ?_) #[true, true, true, true, true, true, true, true, true, true, true, true, true, true, true, true, true, true, true, true, false, false, false, false, false, false, false, false, false, false, false, false] rfl rfl (any_of HT_.out (by kernel_rfl)) (fun _ _ _ h => h) (Or.inr ⟨by rfl, rfl⟩) ?_ ?_
 rotate_left
 ·(
 simp only [Act.put, List.setIfInBounds_toArray, List.set_cons_zero, List.set_cons_succ, i64_w, i32_w]
 rfl)
 refine pure_ (i := 20) (N := some 80) (v := undef) (a' := ?_) #[true, true, true, true, true, true, true, true, true, true, true, true, true, true, true, true, true, true, true, true, true, false, false, false, false, false, false, false, false, false, false, false] rfl rfl (any_of HT_.out (by kernel_rfl)) (fun _ _ _ h => h) (Or.inr ⟨by rfl, rfl⟩) ?_ ?_
 rotate_left
 ·(
 simp only [Act.put, List.setIfInBounds_toArray, List.set_cons_zero, List.set_cons_succ, i64_w, i32_w]
 rfl)
 refine pure_ (i := 21) (N := some 81) (v := undef) (a' := ?_) #[true, true, true, true, true, true, true, true, true, true, true, true, true, true, true, true, true, true, true, true, true, true, false, false, false, false, false, false, false, false, false, false] rfl rfl (any_of HT_.out (by kernel_rfl)) (fun _ _ _ h => h) (Or.inr ⟨by rfl, rfl⟩) ?_ ?_
 rotate_left
 ·(
 simp only [Act.put, List.setIfInBounds_toArray, List.set_cons_zero, List.set_cons_succ, i64_w, i32_w]
 rfl)
 refine pure_ (i := 22) (N := some 82) (v := undef) (a' := ?_) #[true, true, true, true, true, true, true, true, true, true, true, true, true, true, true, true, true, true, true, true, true, true, true, false, false, false, false, false, false, false, false, false] rfl rfl (any_of HT_.out (by kernel_rfl)) (fun _ _ _ h => h) (Or.inr ⟨by rfl, rfl⟩) ?_ ?_
 rotate_left
 ·(
 simp only [Act.put, List.setIfInBounds_toArray, List.set_cons_zero, List.set_cons_succ, i64_w, i32_w]
 rfl)
 refine pure_ (i := 23) (N := some 83) (v := undef) (a' := ?_) #[true, true, true, true, true, true, true, true, true, true, true, true, true, true, true, true, true, true, true, true, true, true, true, true, false, false, false, false, false, false, false, false] rfl rfl (any_of HT_.out (by kernel_rfl)) (fun _ _ _ h => h) (Or.inr ⟨by rfl, rfl⟩) ?_ ?_
 rotate_left
 ·(
 simp only [Act.put, List.setIfInBounds_toArray, List.set_cons_zero, List.set_cons_succ, i64_w, i32_w]
 rfl)
 refine pure_ (i := 24) (N := some 84) (v := undef) (a' := ?_) #[true, true, true, true, true, true, true, true, true, true, true, true, true, true, true, true, true, true, true, true, true, true, true, true, true, false, false, false, false, false, false, false] rfl rfl (any_of HT_.out (by kernel_rfl)) (fun _ _ _ h => h) (Or.inr ⟨by rfl, rfl⟩) ?_ ?_
 rotate_left
 ·(
 simp only [Act.put, List.setIfInBounds_toArray, List.set_cons_zero, List.set_cons_succ, i64_w, i32_w]
 rfl)
 refine pure_ (i := 25) (N := some 85) (v := undef) (a' := ?_) #[true, true, true, true, true, true, true, true, true, true, true, true, true, true, true, true, true, true, true, true, true, true, true, true, true, true, false, false, false, false, false, false] rfl rfl (any_of HT_.out (by kernel_rfl)) (fun _ _ _ h => h) (Or.inr ⟨by rfl, rfl⟩) ?_ ?_
 rotate_left
 ·(
 simp only [Act.put, List.setIfInBounds_toArray, List.set_cons_zero, List.set_cons_succ, i64_w, i32_w]
 rfl)
 refine pure_ (i := 26) (N := some 86) (v := undef) (a' := ?_) #[true, true, true, true, true, true, true, true, true, true, true, true, true, true, true, true, true, true, true, true, true, true, true, true, true, true, true, false, false, false, false, false] rfl rfl (any_of HT_.out (by kernel_rfl)) (fun _ _ _ h => h) (Or.inr ⟨by rfl, rfl⟩) ?_ ?_
 rotate_left
 ·(
 simp only [Act.put, List.setIfInBounds_toArray, List.set_cons_zero, List.set_cons_succ, i64_w, i32_w]
 rfl)
 refine pure_ (i := 27) (N := some 87) (v := undef) (a' := ?_) #[true, true, true, true, true, true, true, true, true, true, true, true, true, true, true, true, true, true, true, true, true, true, true, true, true, true, true, true, false, false, false, false] rfl rfl (any_of HT_.out (by kernel_rfl)) (fun _ _ _ h => h) (Or.inr ⟨by rfl, rfl⟩) ?_ ?_
 rotate_left
 ·(
 simp only [Act.put, List.setIfInBounds_toArray, List.set_cons_zero, List.set_cons_succ, i64_w, i32_w]
 rfl)
 refine pure_ (i := 28) (N := some 88) (v := undef) (a' := ?_) #[true, true, true, true, true, true, true, true, true, true, true, true, true, true, true, true, true, true, true, true, true, true, true, true, true, true, true, true, true, false, false, false] rfl rfl (any_of HT_.out (by kernel_rfl)) (fun _ _ _ h => h) (Or.inr ⟨by rfl, rfl⟩) ?_ ?_
 rotate_left
 ·(
 simp only [Act.put, List.setIfInBounds_toArray, List.set_cons_zero, List.set_cons_succ, i64_w, i32_w]
 rfl)
 refine pu_ 29 (some 89) (bl_ 32 1073741823) ?_
 refine pu_ 30 (some 90) (bl_ 32 2147483647) ?_
 refine last_ (i := 31) (N := none) #[true, true, true, true, true, true, true, true, true, true, true, true, true, true, true, true, true, true, true, true, true, true, true, true, true, true, true, true, true, true, true, true] rfl rfl (one_of HT_.out (by kernel_rfl)) (by decide) (fun K hK => ?_)
 refine skip_ (w1 := ?_) (by rfl) rfl ?_ ?_
 rotate_left
 ·(
 go_simp
 rfl)
 refine hK.out _ _ ?_
 clear hK K
 refine done_ (done_of HT_.out (by kernel_rfl)) ?_
 try go_wp2
 go_roundg k2
 case measure => have := HK1.out; have := HK2.out; omega
 case rel => exact ⟨_, _, (by first | rfl | (simp; done) | (simp [*]; done)), H', ⟨by have := HK1.out; have := HK2.out; omega⟩, ⟨by (with_reducible repeat (first | apply Kd.R_alloc | apply Kd.R_drewN | apply Kd.R_drew)); exact Kd.R_mono (Kd.R_far (p := ⟨go80, (x10_2 : Int).toNat, none⟩) (Kd.R_types HO_5.out GG80.out (by decide)) (fun _ hk => hk.2) (.bool false)) (fun _ hk => hk.1)⟩, ⟨by (with_reducible repeat (first | apply Kd.R_alloc | apply Kd.R_drewN | apply Kd.R_drew)); exact Kd.R_mono (Kd.R_far (p := ⟨go80, (x10_2 : Int).toNat, none⟩) (Kd.R_types HO_6.out GG80.out (by decide)) (fun _ hk => hk.2) (.bool false)) (fun _ hk => hk.1)⟩, ⟨by (with_reducible repeat (first | apply Kd.R_alloc | apply Kd.R_drewN | apply Kd.R_drew)); exact Kd.R_mono (Kd.R_far (p := ⟨go80, (x10_2 : Int).toNat, none⟩) (Kd.R_mono HO_7.out (fun k_ hk => (⟨hk, fun e_ => hk (by rw [e_]; rfl)⟩ : _ ∧ k_ ≠ go80))) (fun _ hk => hk.2) (.bool false)) (fun _ hk => hk.1)⟩, ⟨by (with_reducible repeat (first | apply Kd.R_alloc | apply Kd.R_drewN | apply Kd.R_drew)); exact HQ82.out⟩, ⟨by repeat (first | (with_reducible first | exact HB.out | apply Ak | apply Ah | apply Aj | refine Ao ?_ GB80.out) | exact HB.out)⟩⟩)
 ·(
 rw [if_neg c79] at H
 exact absurd H (by simp)))
 ·(
 rw [if_neg c78] at H
 exact absurd H (by simp)))))
 ·(
 rw [if_neg c26] at H
 exact absurd H (by simp)))
 ·(
 rw [if_neg c25] at H
 exact absurd H (by simp)))
 ·(
 rw [if_neg c24] at H
 have c24b0 : decide (x10_2 ≤ (t351.length : Int)) = false := decide_eq_false c24
 clear c24
 have H' := Aa.mk H
 clear H
 go_wp2
 go_roundg k2
 case measure => have := HK1.out; have := HK2.out; omega
 case rel => exact ⟨_, _, (by first | rfl | (simp; done) | (simp [*]; done)), H', ⟨by have := HK1.out; have := HK2.out; omega⟩, ⟨by (with_reducible repeat (first | apply Kd.R_alloc | apply Kd.R_drewN | apply Kd.R_drew)); exact HO_5.out⟩, ⟨by (with_reducible repeat (first | apply Kd.R_alloc | apply Kd.R_drewN | apply Kd.R_drew)); exact HO_6.out⟩, ⟨by (with_reducible repeat (first | apply Kd.R_alloc | apply Kd.R_drewN | apply Kd.R_drew)); exact Kd.R_mono HO_9.out (fun _ hk => trivial)⟩, ⟨by repeat (first | (with_reducible first | exact HB.out | apply Ak | apply Ah | apply Aj) | exact HB.out)⟩⟩))))
 ·(
 rw [if_neg c20] at H
 exact absurd H (by simp)))
 ·(
 rw [if_neg c19] at H
 exact absurd H (by simp)))
 ·(
 rw [if_neg c17] at H
 have c17b0 : decide (x8_1 < (t348.length : Int)) = false := decide_eq_false c17
 clear c17
 by_cases c83 : 0 ≤ (t351.length : Int)
 ·(
 rw [if_pos c83] at H
 have c83b0 : decide (0 ≤ (t351.length : Int)) = true := decide_eq_true c83
 have c83b1 : decide (0 ≤ t351.length) = true := decide_eq_true (by omega)
 clear c83
 by_cases c84 : (t351.length : Int) < (x7_1.length : Int)
 ·(
 rw [if_pos c84] at H
 have c84b0 : decide ((t351.length : Int) < (x7_1.length : Int)) = true := decide_eq_true c84
 have c84b1 : decide (t351.length < x7_1.length) = true := decide_eq_true (Int.ofNat_lt.mp c84)
 clear c84
 obtain rfl := Dp H
 obtain ⟨Ao85, co85, eo85⟩ := Kd.R_slice HO_5.out
 subst eo85
 obtain ⟨Ao86, co86, eo86⟩ := Kd.R_slice HO_7.out
 subst eo86
 have p358 : 0 ≤ ((t351.length : Int) : Int) := dt_
 have q358 : (t351.length : Int) < (x7_1.length : Int) := dt_
 obtain ⟨ad358, e358, hx358_0⟩ := Kd.at_bool (Kd.R_reads' HO_7.out).2.2 (t351.length : Int) p358 q358
 cases e358
 (try simp only [Go.IntWalk.toNatUp] at hx358_0)
 replace p358 := eq_true p358
 replace q358 := eq_true q358
 go_wp2
 go_ret
 exact ⟨by first | rfl | (simp [errW_none, errW_some] <;> rfl) | (simp only [← hji5]; first | rfl | (simp [errW_none, errW_some] <;> rfl)) | (simp [*, errW_none, errW_some] <;> rfl), by repeat (first | (with_reducible first | exact HB.out | apply Ak | apply Ah | apply Aj) | exact HB.out)⟩)
 ·(
 rw [if_neg c84] at H
 exact absurd H (by simp)))
 ·(
 rw [if_neg c83] at H
 exact absurd H (by simp))))))
 ·(
 rw [if_neg c8] at H
 exact absurd H (by simp)))
 ·(
 rw [if_neg c7] at H
 exact absurd H (by simp)))
 ·(
 rw [if_neg c6] at H
 exact absurd H (by simp))
end Go.Proofs.Ytdedmhmomoejkaa.X
