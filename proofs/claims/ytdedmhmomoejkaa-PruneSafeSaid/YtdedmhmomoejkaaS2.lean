/- Words and walks for X.pruneSafe_holds, part 2 of the texts that a program of this session laid together. -/
import Derived.Test.YtdedmhmomoejkaaS1
namespace Go.Proofs.Ytdedmhmomoejkaa.X
set_option maxHeartbeats 8000000
set_option maxRecDepth 100000
open Go.RowKit Go.Proofs.YtdedmhmomoejkaaW.PrintWords Go.Proofs.YtdedmhmomoejkaaW.PrintLast Go.Proofs.YtdedmhmomoejkaaW.PrintMore
attribute [local go_sem] max2_int max_two
set_option linter.unusedVariables false
set_option linter.unusedSimpArgs false
def Da.f (a0_0 : Int) (a0_1 : ByteArray) (a0_2 : Int) (a0_3 : Bool) (a0_4 : Int) (a0_5 : ByteArray) (a0_6 : Int) (a0_7 : ByteArray) (l0_8 : List (S27)) : Option (Bool) := (Di.f a0_0 a0_1 a0_2 a0_3 a0_4 a0_5 a0_6 a0_7 l0_8).bind fun bt109 => ((Dh.f a0_0 a0_1 a0_2 a0_3 a0_4 a0_5 a0_6 a0_7 l0_8 bt109.1 bt109.2.1 bt109.2.2.1 bt109.2.2.2.1 bt109.2.2.2.2.1 bt109.2.2.2.2.2.1 bt109.2.2.2.2.2.2.1 bt109.2.2.2.2.2.2.2.1 bt109.2.2.2.2.2.2.2.2).bind fun t120 => (if t120 = true then (if a0_0 = 1 then (some true) else (if a0_0 = 2 then ((Bt.f a0_1).bind fun t121 => (if t121 = true then (if a0_2 ≥ 1 then (if a0_2 ≤ 6 then ((Br.f a0_6 false a0_3 a0_4 a0_5).bind fun t122 => (some t122)) else (some false)) else (some false)) else (some false))) else (if a0_0 = 3 then ((Bt.f a0_1).bind fun t123 => (some t123)) else (if a0_0 = 4 then ((Bt.f a0_1).bind fun t124 => (if t124 = true then (some (decide ((a0_7.size : Int) ≤ 40))) else (some false))) else (if a0_0 ≥ 5 then (some (decide (a0_0 ≤ 7))) else (some false)))))) else (some false)))
theorem Da.calls (a0_0 : Int) (a0_1 : ByteArray) (a0_2 : Int) (a0_3 : Bool) (a0_4 : Int) (a0_5 : ByteArray) (a0_6 : Int) (a0_7 : ByteArray) (A0_8 : Option Addr) (c0_8 : Nat) (l0_8 : List (S27)) (r : Bool) (w : World) (hr0_8 : Kd.C k27 w A0_8 l0_8.length l0_8) (hc0_8 : l0_8.length ≤ c0_8) (h : Da.f a0_0 a0_1 a0_2 a0_3 a0_4 a0_5 a0_6 a0_7 l0_8 = some r) :
  Calls Try.prog 64 #[.agg #[.int .i64 a0_0, .string a0_1, .int .i64 a0_2, .bool a0_3, .int .i64 a0_4, .string a0_5, .int .i64 a0_6, .string a0_7, .slice A0_8 l0_8.length c0_8]] w fun e w' => e = .returned (.bool r) ∧ Below w.heap.size w w' := by
 have hu27 := Try.underlying27
 have hu24 := Try.underlying24
 have HR0_8 := Aa.mk hr0_8
 have HC0_8 := Aa.mk hc0_8
 clear hr0_8 hc0_8
 have HB := Aa.mk (Below.refl w.heap.size w)
 have H : ((Di.f a0_0 a0_1 a0_2 a0_3 a0_4 a0_5 a0_6 a0_7 l0_8).bind fun bt109 => ((Dh.f a0_0 a0_1 a0_2 a0_3 a0_4 a0_5 a0_6 a0_7 l0_8 bt109.1 bt109.2.1 bt109.2.2.1 bt109.2.2.2.1 bt109.2.2.2.2.1 bt109.2.2.2.2.2.1 bt109.2.2.2.2.2.2.1 bt109.2.2.2.2.2.2.2.1 bt109.2.2.2.2.2.2.2.2).bind fun t120 => (if t120 = true then (if a0_0 = 1 then (some true) else (if a0_0 = 2 then ((Bt.f a0_1).bind fun t121 => (if t121 = true then (if a0_2 ≥ 1 then (if a0_2 ≤ 6 then ((Br.f a0_6 false a0_3 a0_4 a0_5).bind fun t122 => (some t122)) else (some false)) else (some false)) else (some false))) else (if a0_0 = 3 then ((Bt.f a0_1).bind fun t123 => (some t123)) else (if a0_0 = 4 then ((Bt.f a0_1).bind fun t124 => (if t124 = true then (some (decide ((a0_7.size : Int) ≤ 40))) else (some false))) else (if a0_0 ≥ 5 then (some (decide (a0_0 ≤ 7))) else (some false)))))) else (some false)))) = some r := h
 clear h
 replace H := Dn H
 obtain ⟨⟨t109, t110, t111, t112, t113, t114, t115, t116, t117⟩, A20, H⟩ := H
 replace H : ((Dh.f a0_0 a0_1 a0_2 a0_3 a0_4 a0_5 a0_6 a0_7 l0_8 t109 t110 t111 t112 t113 t114 t115 t116 t117).bind fun t120 => (if t120 = true then (if a0_0 = 1 then (some true) else (if a0_0 = 2 then ((Bt.f a0_1).bind fun t121 => (if t121 = true then (if a0_2 ≥ 1 then (if a0_2 ≤ 6 then ((Br.f a0_6 false a0_3 a0_4 a0_5).bind fun t122 => (some t122)) else (some false)) else (some false)) else (some false))) else (if a0_0 = 3 then ((Bt.f a0_1).bind fun t123 => (some t123)) else (if a0_0 = 4 then ((Bt.f a0_1).bind fun t124 => (if t124 = true then (some (decide ((a0_7.size : Int) ≤ 40))) else (some false))) else (if a0_0 ≥ 5 then (some (decide (a0_0 ≤ 7))) else (some false)))))) else (some false))) = some r := H
 have A2 := Aa.mk A20
 clear A20
 replace H := Dn H
 obtain ⟨t120, A30, H⟩ := H
 replace H : (if t120 = true then (if a0_0 = 1 then (some true) else (if a0_0 = 2 then ((Bt.f a0_1).bind fun t121 => (if t121 = true then (if a0_2 ≥ 1 then (if a0_2 ≤ 6 then ((Br.f a0_6 false a0_3 a0_4 a0_5).bind fun t122 => (some t122)) else (some false)) else (some false)) else (some false))) else (if a0_0 = 3 then ((Bt.f a0_1).bind fun t123 => (some t123)) else (if a0_0 = 4 then ((Bt.f a0_1).bind fun t124 => (if t124 = true then (some (decide ((a0_7.size : Int) ≤ 40))) else (some false))) else (if a0_0 ≥ 5 then (some (decide (a0_0 ≤ 7))) else (some false)))))) else (some false)) = some r := H
 have A3 := Aa.mk A30
 clear A30
 by_cases c4 : t120 = true
 ·(
 subst c4
 have H1 : (if a0_0 = 1 then (some true) else (if a0_0 = 2 then ((Bt.f a0_1).bind fun t121 => (if t121 = true then (if a0_2 ≥ 1 then (if a0_2 ≤ 6 then ((Br.f a0_6 false a0_3 a0_4 a0_5).bind fun t122 => (some t122)) else (some false)) else (some false)) else (some false))) else (if a0_0 = 3 then ((Bt.f a0_1).bind fun t123 => (some t123)) else (if a0_0 = 4 then ((Bt.f a0_1).bind fun t124 => (if t124 = true then (some (decide ((a0_7.size : Int) ≤ 40))) else (some false))) else (if a0_0 ≥ 5 then (some (decide (a0_0 ≤ 7))) else (some false)))))) = some r := by rw [if_pos rfl] at H; exact H
 clear H
 have H := H1
 clear H1
 have H' := Aa.mk H
 clear H
 go_enter Try.func64, Try.ntmps64
 try go_wp2_with (first | ((with_reducible refine Cv (N := 1) rfl ?_); (try (refine Cy (by rfl) ?_; dsimp only)); refine bx_ (N := 1) (cs := #[.int .i64 a0_0, .string a0_1, .int .i64 a0_2, .bool a0_3, .int .i64 a0_4, .string a0_5, .int .i64 a0_6, .string a0_7, .slice A0_8 l0_8.length c0_8]) (t := 27) ?_; intro gb108 hg w6 hbox hb; have BK108 := Aa.mk (hbox); have GW108 := ge_ HB hg; have GE108 := ge_ HB hg; replace HB := bs_ HB hb; clear hb hbox hg))
 replace BK108 := Aa.mk (Af BK108.out); replace HB := Aa.mk (Aj HB.out)
 refine start_ (n := 5) (S := fun w' => w'.cell? ⟨gb108, 0, none⟩ = some (.int .i64 a0_0) ∧ w'.cell? ⟨gb108, 1, none⟩ = some (.string a0_1) ∧ w'.cell? ⟨gb108, 2, none⟩ = some (.int .i64 a0_2) ∧ w'.cell? ⟨gb108, 3, none⟩ = some (.bool a0_3) ∧ w'.cell? ⟨gb108, 4, none⟩ = some (.int .i64 a0_4) ∧ w'.cell? ⟨gb108, 5, none⟩ = some (.string a0_5) ∧ w'.cell? ⟨gb108, 6, none⟩ = some (.int .i64 a0_6) ∧ w'.cell? ⟨gb108, 7, none⟩ = some (.string a0_7) ∧ w'.cell? ⟨gb108, 8, none⟩ = some (.slice A0_8 l0_8.length c0_8)) (ds := []) #[false, false, false, false, false] (by kernel_rfl) rfl rfl ⟨(Ab BK108.out 0).trans rfl, (Ab BK108.out 1).trans rfl, (Ab BK108.out 2).trans rfl, (Ab BK108.out 3).trans rfl, (Ab BK108.out 4).trans rfl, (Ab BK108.out 5).trans rfl, (Ab BK108.out 6).trans rfl, (Ab BK108.out 7).trans rfl, (Ab BK108.out 8).trans rfl⟩ (fun hHeld => ?_)
 generalize w6.drew = w7 at BK108 HB hHeld ⊢
 refine take_ (i := 0) (N := some 3) (v := ?_) (a' := ?_) #[true, false, false, false, false] rfl rfl (by kernel_rfl) (fun _ _ _ h => h) (Or.inl ⟨by rfl, ?_⟩) hHeld ?_ ?_
 rotate_left
 ·(
 rintro w' ⟨s0, s1, s2, s3, s4, s5, s6, s7, s8⟩
 go_simp
 with_reducible rfl)
 rotate_left
 ·(
 simp only [Act.put, List.setIfInBounds_toArray, List.set_cons_zero, List.set_cons_succ, i64_w, i32_w]
 rfl)
 refine take_ (i := 1) (N := some 4) (v := ?_) (a' := ?_) #[true, true, false, false, false] rfl rfl (by kernel_rfl) (fun _ _ _ h => h) (Or.inl ⟨by rfl, ?_⟩) hHeld ?_ ?_
 rotate_left
 ·(
 rintro w' ⟨s0, s1, s2, s3, s4, s5, s6, s7, s8⟩
 go_simp
 with_reducible rfl)
 rotate_left
 ·(
 simp only [Act.put, List.setIfInBounds_toArray, List.set_cons_zero, List.set_cons_succ, i64_w, i32_w]
 rfl)
 refine one_ (i := 2) (N := some 5) #[true, true, true, false, false] rfl rfl (by kernel_rfl) (by decide) (fun K hK => ?_)
 refine gs_ Try.func87 #[.agg #[.int .i64 a0_0, .string a0_1, .int .i64 a0_2, .bool a0_3, .int .i64 a0_4, .string a0_5, .int .i64 a0_6, .string a0_7, .slice A0_8 l0_8.length c0_8]] ?_
 with_reducible refine (Di.calls a0_0 a0_1 a0_2 a0_3 a0_4 a0_5 a0_6 a0_7 _ _ l0_8 t109 t110 t111 t112 t113 t114 t115 t116 t117 _ ?side1 ?side2 A2.out).mono ?_
 (case side1 => repeat (first | exact (Kd.C_below HR0_8.out HB.out) | (with_reducible refine Kd.C_alloc ?_ _) | (with_reducible refine Kd.C_drewN ?_ _) | (with_reducible refine Kd.C_drew ?_)))
 (case side2 => exact HC0_8.out)
 rintro e w8 ⟨v118, rfl, ho0, hb⟩
 refine ⟨_, rfl, ?_⟩
 have HO119 := Aa.mk (Kd.R_lower (Kd.R_newB ho0 (by (with_reducible repeat (first | refine Ag ?_ _ | refine Af ?_ | refine Ae ?_ _)); exact BK108.out)) (Ca (by repeat (first | (with_reducible first | exact HB.out | apply Ak | apply Ah | apply Aj | refine Ao ?_ GE108.out) | exact HB.out)))); replace BK108 := bk_ BK108 hb; replace HB := bs_ HB hb
 (try clear hb)
 (try clear ho0)
 obtain ⟨Ao9, co9, eo9⟩ := Kd.R_slice HO119.out
 (first | subst eo9 | (injection eo9 with f1_ f2_ f3_; have f4_ := f1_.symm; have f5_ := f3_.symm; clear f1_ f2_ f3_; subst f4_; subst f5_))
 refine hK.out _ _ ⟨(Ab BK108.out 0).trans rfl, (Ab BK108.out 1).trans rfl, (Ab BK108.out 2).trans rfl, (Ab BK108.out 3).trans rfl, (Ab BK108.out 4).trans rfl, (Ab BK108.out 5).trans rfl, (Ab BK108.out 6).trans rfl, (Ab BK108.out 7).trans rfl, (Ab BK108.out 8).trans rfl⟩ (fun hHeld => ?_)
 clear hK K
 refine norm_ (a' := ?_) ?_ ?_
 rotate_left
 ·(
 show Act.put _ (some 5) _ = _
 simp only [Act.put, List.setIfInBounds_toArray, List.set_cons_zero, List.set_cons_succ, i64_w, i32_w]
 rfl)
 refine one_ (i := 3) (N := some 6) #[true, true, true, true, false] rfl rfl (by kernel_rfl) (by decide) (fun K hK => ?_)
 refine gs_ Try.func86 #[.agg #[.int .i64 a0_0, .string a0_1, .int .i64 a0_2, .bool a0_3, .int .i64 a0_4, .string a0_5, .int .i64 a0_6, .string a0_7, .slice A0_8 l0_8.length c0_8], .agg #[.int .i64 t109, .string t110, .int .i64 t111, .bool t112, .int .i64 t113, .string t114, .int .i64 t115, .string t116, .slice Ao9 t117.length co9]] ?_
 with_reducible refine (Dh.calls a0_0 a0_1 a0_2 a0_3 a0_4 a0_5 a0_6 a0_7 _ _ l0_8 t109 t110 t111 t112 t113 t114 t115 t116 _ _ t117 true _ ?side1 ?side2 ?side3 ?side4 A3.out).mono ?_
 (case side1 => repeat (first | exact (Kd.C_below HR0_8.out HB.out) | (with_reducible refine Kd.C_alloc ?_ _) | (with_reducible refine Kd.C_drewN ?_ _) | (with_reducible refine Kd.C_drew ?_)))
 (case side2 => exact HC0_8.out)
 (case side3 => repeat (first | exact (Kd.R_reads' HO119.out).2.2 | (with_reducible refine Kd.C_alloc ?_ _) | (with_reducible refine Kd.C_drewN ?_ _) | (with_reducible refine Kd.C_drew ?_)))
 (case side4 => exact (Kd.R_reads' HO119.out).2.1)
 rintro e w10 ⟨rfl, hb⟩
 refine ⟨_, rfl, ?_⟩
 replace HO119 := Aa.mk (Kd.R_below (by (with_reducible repeat (first | apply Kd.R_alloc | apply Kd.R_drewN | apply Kd.R_drew)); exact HO119.out) hb); replace BK108 := bk_ BK108 hb; replace HB := bs_ HB hb
 (try clear hb)
 refine hK.out _ _ ⟨(Ab BK108.out 0).trans rfl, (Ab BK108.out 1).trans rfl, (Ab BK108.out 2).trans rfl, (Ab BK108.out 3).trans rfl, (Ab BK108.out 4).trans rfl, (Ab BK108.out 5).trans rfl, (Ab BK108.out 6).trans rfl, (Ab BK108.out 7).trans rfl, (Ab BK108.out 8).trans rfl⟩ (fun hHeld => ?_)
 clear hK K
 refine norm_ (a' := ?_) ?_ ?_
 rotate_left
 ·(
 show Act.put _ (some 6) _ = _
 simp only [Act.put, List.setIfInBounds_toArray, List.set_cons_zero, List.set_cons_succ, i64_w, i32_w]
 rfl)
 refine pure_ (i := 4) (N := some 7) (v := ?_) (a' := ?_) #[true, true, true, true, true] rfl rfl (by kernel_rfl) (fun _ _ _ h => h) (Or.inl ⟨by rfl, ?_⟩) ?_ ?_
 rotate_left
 ·(
 intro w'
 go_simp
 with_reducible rfl)
 rotate_left
 ·(
 simp only [Act.put, List.setIfInBounds_toArray, List.set_cons_zero, List.set_cons_succ, i64_w, i32_w]
 rfl)
 refine done_ (by kernel_rfl) ?_
 have H := H'.out
 clear H'
 by_cases c5 : a0_0 = 1
 ·(
 rw [if_pos c5] at H
 have c5b0 : (a0_0 == 1) = true := Dl c5
 have c5b1 : (a0_0 != 1) = false := Dk c5
 clear c5
 obtain rfl := Dp H
 obtain ⟨C11_0, C11_1, C11_2, C11_3, C11_4, C11_5, C11_6, C11_7, C11_8⟩ := cz9_ BK108.out
 obtain ⟨F11_0, F11_1, F11_2, F11_3, F11_4, F11_5, F11_6, F11_7, F11_8⟩ := fz9_ BK108.out
 try go_wp2
 go_ret
 exact en_ HB)
 ·(
 rw [if_neg c5] at H
 have c5b0 : (a0_0 == 1) = false := Dj c5
 have c5b1 : (a0_0 != 1) = true := Dm c5
 by_cases c12 : a0_0 = 2
 ·(
 rw [if_pos c12] at H
 have c12b0 : (a0_0 == 2) = true := Dl c12
 have c12b1 : (a0_0 != 2) = false := Dk c12
 clear c12
 replace H := Dn H
 obtain ⟨t121, A130, H⟩ := H
 replace H : (if t121 = true then (if a0_2 ≥ 1 then (if a0_2 ≤ 6 then ((Br.f a0_6 false a0_3 a0_4 a0_5).bind fun t122 => (some t122)) else (some false)) else (some false)) else (some false)) = some r := H
 have A13 := Aa.mk A130
 clear A130
 by_cases c14 : t121 = true
 ·(
 subst c14
 have H1 : (if a0_2 ≥ 1 then (if a0_2 ≤ 6 then ((Br.f a0_6 false a0_3 a0_4 a0_5).bind fun t122 => (some t122)) else (some false)) else (some false)) = some r := by rw [if_pos rfl] at H; exact H
 clear H
 have H := H1
 clear H1
 by_cases c15 : a0_2 ≥ 1
 ·(
 rw [if_pos c15] at H
 have c15b0 : decide (1 ≤ a0_2) = true := decide_eq_true c15
 clear c15
 by_cases c16 : a0_2 ≤ 6
 ·(
 rw [if_pos c16] at H
 have c16b0 : decide (a0_2 ≤ 6) = true := decide_eq_true c16
 clear c16
 replace H := Dn H
 obtain ⟨t122, A170, H⟩ := H
 replace H : (some t122) = some r := H
 have A17 := Aa.mk A170
 clear A170
 obtain rfl := Dp H
 obtain ⟨C23_0, C23_1, C23_2, C23_3, C23_4, C23_5, C23_6, C23_7, C23_8⟩ := cz9_ BK108.out
 obtain ⟨F23_0, F23_1, F23_2, F23_3, F23_4, F23_5, F23_6, F23_7, F23_8⟩ := fz9_ BK108.out
 try go_wp2_with (first | ((with_reducible refine Aw (f := 68) rfl ?_); refine gl_ (some 16) rfl Try.func68 #[.string a0_1] ?_; (with_reducible refine (Bt.calls a0_1 true _ A13.out).mono ?_); rintro e w24 ⟨rfl, hb⟩; refine ⟨_, rfl, ?_⟩; have n0_ := Aa.mk (Kd.R_below (by (with_reducible repeat (first | apply Kd.R_alloc | apply Kd.R_drewN | apply Kd.R_drew)); exact HO119.out) hb); have n1_ := bk_ BK108 hb; have n2_ := bs_ HB hb; clear HO119; clear BK108; clear HB; have HO119 := n0_; have BK108 := n1_; have HB := n2_; clear n0_ n1_ n2_; (try clear hb); (try clear hb2); (try clear hk); (try clear hi); obtain ⟨C25_0, C25_1, C25_2, C25_3, C25_4, C25_5, C25_6, C25_7, C25_8⟩ := zc9_ BK108.out; obtain ⟨F25_0, F25_1, F25_2, F25_3, F25_4, F25_5, F25_6, F25_7, F25_8⟩ := zf9_ BK108.out) | (go_at_call 49; (with_reducible refine (Br.calls a0_6 false a0_3 a0_4 a0_5 t122 _ A17.out).mono ?_); rintro e w26 ⟨rfl, hb⟩; have n0_ := Aa.mk (Kd.R_below (by (with_reducible repeat (first | apply Kd.R_alloc | apply Kd.R_drewN | apply Kd.R_drew)); exact HO119.out) hb); have n1_ := bk_ BK108 hb; have n2_ := bs_ HB hb; clear HO119; clear BK108; clear HB; have HO119 := n0_; have BK108 := n1_; have HB := n2_; clear n0_ n1_ n2_; (try clear hb); (try clear hb2); (try clear hk); (try clear hi)))
 go_ret
 exact en_ HB)
 ·(
 rw [if_neg c16] at H
 have c16b0 : decide (a0_2 ≤ 6) = false := decide_eq_false c16
 clear c16
 obtain rfl := Dp H
 obtain ⟨C32_0, C32_1, C32_2, C32_3, C32_4, C32_5, C32_6, C32_7, C32_8⟩ := cz9_ BK108.out
 obtain ⟨F32_0, F32_1, F32_2, F32_3, F32_4, F32_5, F32_6, F32_7, F32_8⟩ := fz9_ BK108.out
 try go_wp2_with (first | ((with_reducible refine Aw (f := 68) rfl ?_); refine gl_ (some 16) rfl Try.func68 #[.string a0_1] ?_; (with_reducible refine (Bt.calls a0_1 true _ A13.out).mono ?_); rintro e w33 ⟨rfl, hb⟩; refine ⟨_, rfl, ?_⟩; have n0_ := Aa.mk (Kd.R_below (by (with_reducible repeat (first | apply Kd.R_alloc | apply Kd.R_drewN | apply Kd.R_drew)); exact HO119.out) hb); have n1_ := bk_ BK108 hb; have n2_ := bs_ HB hb; clear HO119; clear BK108; clear HB; have HO119 := n0_; have BK108 := n1_; have HB := n2_; clear n0_ n1_ n2_; (try clear hb); (try clear hb2); (try clear hk); (try clear hi); obtain ⟨C34_0, C34_1, C34_2, C34_3, C34_4, C34_5, C34_6, C34_7, C34_8⟩ := zc9_ BK108.out; obtain ⟨F34_0, F34_1, F34_2, F34_3, F34_4, F34_5, F34_6, F34_7, F34_8⟩ := zf9_ BK108.out))
 go_ret
 exact en_ HB))
 ·(
 rw [if_neg c15] at H
 have c15b0 : decide (1 ≤ a0_2) = false := decide_eq_false c15
 clear c15
 obtain rfl := Dp H
 obtain ⟨C40_0, C40_1, C40_2, C40_3, C40_4, C40_5, C40_6, C40_7, C40_8⟩ := cz9_ BK108.out
 obtain ⟨F40_0, F40_1, F40_2, F40_3, F40_4, F40_5, F40_6, F40_7, F40_8⟩ := fz9_ BK108.out
 try go_wp2_with (first | ((with_reducible refine Aw (f := 68) rfl ?_); refine gl_ (some 16) rfl Try.func68 #[.string a0_1] ?_; (with_reducible refine (Bt.calls a0_1 true _ A13.out).mono ?_); rintro e w41 ⟨rfl, hb⟩; refine ⟨_, rfl, ?_⟩; have n0_ := Aa.mk (Kd.R_below (by (with_reducible repeat (first | apply Kd.R_alloc | apply Kd.R_drewN | apply Kd.R_drew)); exact HO119.out) hb); have n1_ := bk_ BK108 hb; have n2_ := bs_ HB hb; clear HO119; clear BK108; clear HB; have HO119 := n0_; have BK108 := n1_; have HB := n2_; clear n0_ n1_ n2_; (try clear hb); (try clear hb2); (try clear hk); (try clear hi); obtain ⟨C42_0, C42_1, C42_2, C42_3, C42_4, C42_5, C42_6, C42_7, C42_8⟩ := zc9_ BK108.out; obtain ⟨F42_0, F42_1, F42_2, F42_3, F42_4, F42_5, F42_6, F42_7, F42_8⟩ := zf9_ BK108.out))
 go_ret
 exact en_ HB))
 ·(
 replace c14 := Dq c14
 subst c14
 have H1 : (some false) = some r := by rw [if_neg (show ¬ (false = true) by decide)] at H; exact H
 clear H
 have H := H1
 clear H1
 obtain rfl := Dp H
 obtain ⟨C48_0, C48_1, C48_2, C48_3, C48_4, C48_5, C48_6, C48_7, C48_8⟩ := cz9_ BK108.out
 obtain ⟨F48_0, F48_1, F48_2, F48_3, F48_4, F48_5, F48_6, F48_7, F48_8⟩ := fz9_ BK108.out
 try go_wp2_with (first | ((with_reducible refine Aw (f := 68) rfl ?_); refine gl_ (some 16) rfl Try.func68 #[.string a0_1] ?_; (with_reducible refine (Bt.calls a0_1 false _ A13.out).mono ?_); rintro e w49 ⟨rfl, hb⟩; refine ⟨_, rfl, ?_⟩; have n0_ := Aa.mk (Kd.R_below (by (with_reducible repeat (first | apply Kd.R_alloc | apply Kd.R_drewN | apply Kd.R_drew)); exact HO119.out) hb); have n1_ := bk_ BK108 hb; have n2_ := bs_ HB hb; clear HO119; clear BK108; clear HB; have HO119 := n0_; have BK108 := n1_; have HB := n2_; clear n0_ n1_ n2_; (try clear hb); (try clear hb2); (try clear hk); (try clear hi)))
 go_ret
 exact en_ HB))
 ·(
 rw [if_neg c12] at H
 have c12b0 : (a0_0 == 2) = false := Dj c12
 have c12b1 : (a0_0 != 2) = true := Dm c12
 by_cases c50 : a0_0 = 3
 ·(
 rw [if_pos c50] at H
 have c50b0 : (a0_0 == 3) = true := Dl c50
 have c50b1 : (a0_0 != 3) = false := Dk c50
 clear c50
 replace H := Dn H
 obtain ⟨t123, A510, H⟩ := H
 replace H : (some t123) = some r := H
 have A51 := Aa.mk A510
 clear A510
 obtain rfl := Dp H
 obtain ⟨C57_0, C57_1, C57_2, C57_3, C57_4, C57_5, C57_6, C57_7, C57_8⟩ := cz9_ BK108.out
 obtain ⟨F57_0, F57_1, F57_2, F57_3, F57_4, F57_5, F57_6, F57_7, F57_8⟩ := fz9_ BK108.out
 try go_wp2_with (first | ((with_reducible refine Aw (f := 68) rfl ?_); refine gl_ (some 38) rfl Try.func68 #[.string a0_1] ?_; (with_reducible refine (Bt.calls a0_1 t123 _ A51.out).mono ?_); rintro e w58 ⟨rfl, hb⟩; refine ⟨_, rfl, ?_⟩; have n0_ := Aa.mk (Kd.R_below (by (with_reducible repeat (first | apply Kd.R_alloc | apply Kd.R_drewN | apply Kd.R_drew)); exact HO119.out) hb); have n1_ := bk_ BK108 hb; have n2_ := bs_ HB hb; clear HO119; clear BK108; clear HB; have HO119 := n0_; have BK108 := n1_; have HB := n2_; clear n0_ n1_ n2_; (try clear hb); (try clear hb2); (try clear hk); (try clear hi)))
 go_ret
 exact en_ HB)
 ·(
 rw [if_neg c50] at H
 have c50b0 : (a0_0 == 3) = false := Dj c50
 have c50b1 : (a0_0 != 3) = true := Dm c50
 by_cases c59 : a0_0 = 4
 ·(
 rw [if_pos c59] at H
 have c59b0 : (a0_0 == 4) = true := Dl c59
 have c59b1 : (a0_0 != 4) = false := Dk c59
 clear c59
 replace H := Dn H
 obtain ⟨t124, A600, H⟩ := H
 replace H : (if t124 = true then (some (decide ((a0_7.size : Int) ≤ 40))) else (some false)) = some r := H
 have A60 := Aa.mk A600
 clear A600
 by_cases c61 : t124 = true
 ·(
 subst c61
 have H1 : (some (decide ((a0_7.size : Int) ≤ 40))) = some r := by rw [if_pos rfl] at H; exact H
 clear H
 have H := H1
 clear H1
 obtain rfl := Dp H
 obtain ⟨C67_0, C67_1, C67_2, C67_3, C67_4, C67_5, C67_6, C67_7, C67_8⟩ := cz9_ BK108.out
 obtain ⟨F67_0, F67_1, F67_2, F67_3, F67_4, F67_5, F67_6, F67_7, F67_8⟩ := fz9_ BK108.out
 try go_wp2_with (first | ((with_reducible refine Aw (f := 68) rfl ?_); refine gl_ (some 43) rfl Try.func68 #[.string a0_1] ?_; (with_reducible refine (Bt.calls a0_1 true _ A60.out).mono ?_); rintro e w68 ⟨rfl, hb⟩; refine ⟨_, rfl, ?_⟩; have n0_ := Aa.mk (Kd.R_below (by (with_reducible repeat (first | apply Kd.R_alloc | apply Kd.R_drewN | apply Kd.R_drew)); exact HO119.out) hb); have n1_ := bk_ BK108 hb; have n2_ := bs_ HB hb; clear HO119; clear BK108; clear HB; have HO119 := n0_; have BK108 := n1_; have HB := n2_; clear n0_ n1_ n2_; (try clear hb); (try clear hb2); (try clear hk); (try clear hi); obtain ⟨C69_0, C69_1, C69_2, C69_3, C69_4, C69_5, C69_6, C69_7, C69_8⟩ := zc9_ BK108.out; obtain ⟨F69_0, F69_1, F69_2, F69_3, F69_4, F69_5, F69_6, F69_7, F69_8⟩ := zf9_ BK108.out))
 go_ret
 exact en_ HB)
 ·(
 replace c61 := Dq c61
 subst c61
 have H1 : (some false) = some r := by rw [if_neg (show ¬ (false = true) by decide)] at H; exact H
 clear H
 have H := H1
 clear H1
 obtain rfl := Dp H
 obtain ⟨C75_0, C75_1, C75_2, C75_3, C75_4, C75_5, C75_6, C75_7, C75_8⟩ := cz9_ BK108.out
 obtain ⟨F75_0, F75_1, F75_2, F75_3, F75_4, F75_5, F75_6, F75_7, F75_8⟩ := fz9_ BK108.out
 try go_wp2_with (first | ((with_reducible refine Aw (f := 68) rfl ?_); refine gl_ (some 43) rfl Try.func68 #[.string a0_1] ?_; (with_reducible refine (Bt.calls a0_1 false _ A60.out).mono ?_); rintro e w76 ⟨rfl, hb⟩; refine ⟨_, rfl, ?_⟩; have n0_ := Aa.mk (Kd.R_below (by (with_reducible repeat (first | apply Kd.R_alloc | apply Kd.R_drewN | apply Kd.R_drew)); exact HO119.out) hb); have n1_ := bk_ BK108 hb; have n2_ := bs_ HB hb; clear HO119; clear BK108; clear HB; have HO119 := n0_; have BK108 := n1_; have HB := n2_; clear n0_ n1_ n2_; (try clear hb); (try clear hb2); (try clear hk); (try clear hi)))
 go_ret
 exact en_ HB))
 ·(
 rw [if_neg c59] at H
 have c59b0 : (a0_0 == 4) = false := Dj c59
 have c59b1 : (a0_0 != 4) = true := Dm c59
 by_cases c77 : a0_0 ≥ 5
 rotate_left
 focus(
 rw [if_neg c77] at H
 have c77b0 : decide (5 ≤ a0_0) = false := decide_eq_false c77)
 rotate_right
 focus(
 rw [if_pos c77] at H
 have c77b0 : decide (5 ≤ a0_0) = true := decide_eq_true c77)
 all_goals(
 clear c77
 obtain rfl := Dp H
 obtain ⟨C83_0, C83_1, C83_2, C83_3, C83_4, C83_5, C83_6, C83_7, C83_8⟩ := cz9_ BK108.out
 obtain ⟨F83_0, F83_1, F83_2, F83_3, F83_4, F83_5, F83_6, F83_7, F83_8⟩ := fz9_ BK108.out
 try go_wp2
 go_ret
 exact en_ HB))))))
 ·(
 replace c4 := Dq c4
 subst c4
 have H1 : (some false) = some r := by rw [if_neg (show ¬ (false = true) by decide)] at H; exact H
 clear H
 have H := H1
 clear H1
 obtain rfl := Dp H
 go_enter Try.func64, Try.ntmps64
 try go_wp2_with (first | ((with_reducible refine Cv (N := 1) rfl ?_); (try (refine Cy (by rfl) ?_; dsimp only)); refine bx_ (N := 1) (cs := #[.int .i64 a0_0, .string a0_1, .int .i64 a0_2, .bool a0_3, .int .i64 a0_4, .string a0_5, .int .i64 a0_6, .string a0_7, .slice A0_8 l0_8.length c0_8]) (t := 27) ?_; intro gb108 hg w90 hbox hb; have BK108 := Aa.mk (hbox); have GW108 := ge_ HB hg; have GE108 := ge_ HB hg; replace HB := bs_ HB hb; clear hb hbox hg))
 replace BK108 := Aa.mk (Af BK108.out); replace HB := Aa.mk (Aj HB.out)
 refine start_ (n := 5) (S := fun w' => w'.cell? ⟨gb108, 0, none⟩ = some (.int .i64 a0_0) ∧ w'.cell? ⟨gb108, 1, none⟩ = some (.string a0_1) ∧ w'.cell? ⟨gb108, 2, none⟩ = some (.int .i64 a0_2) ∧ w'.cell? ⟨gb108, 3, none⟩ = some (.bool a0_3) ∧ w'.cell? ⟨gb108, 4, none⟩ = some (.int .i64 a0_4) ∧ w'.cell? ⟨gb108, 5, none⟩ = some (.string a0_5) ∧ w'.cell? ⟨gb108, 6, none⟩ = some (.int .i64 a0_6) ∧ w'.cell? ⟨gb108, 7, none⟩ = some (.string a0_7) ∧ w'.cell? ⟨gb108, 8, none⟩ = some (.slice A0_8 l0_8.length c0_8)) (ds := []) #[false, false, false, false, false] (by kernel_rfl) rfl rfl ⟨(Ab BK108.out 0).trans rfl, (Ab BK108.out 1).trans rfl, (Ab BK108.out 2).trans rfl, (Ab BK108.out 3).trans rfl, (Ab BK108.out 4).trans rfl, (Ab BK108.out 5).trans rfl, (Ab BK108.out 6).trans rfl, (Ab BK108.out 7).trans rfl, (Ab BK108.out 8).trans rfl⟩ (fun hHeld => ?_)
 generalize w90.drew = w91 at BK108 HB hHeld ⊢
 refine take_ (i := 0) (N := some 3) (v := ?_) (a' := ?_) #[true, false, false, false, false] rfl rfl (by kernel_rfl) (fun _ _ _ h => h) (Or.inl ⟨by rfl, ?_⟩) hHeld ?_ ?_
 rotate_left
 ·(
 rintro w' ⟨s0, s1, s2, s3, s4, s5, s6, s7, s8⟩
 go_simp
 with_reducible rfl)
 rotate_left
 ·(
 simp only [Act.put, List.setIfInBounds_toArray, List.set_cons_zero, List.set_cons_succ, i64_w, i32_w]
 rfl)
 refine take_ (i := 1) (N := some 4) (v := ?_) (a' := ?_) #[true, true, false, false, false] rfl rfl (by kernel_rfl) (fun _ _ _ h => h) (Or.inl ⟨by rfl, ?_⟩) hHeld ?_ ?_
 rotate_left
 ·(
 rintro w' ⟨s0, s1, s2, s3, s4, s5, s6, s7, s8⟩
 go_simp
 with_reducible rfl)
 rotate_left
 ·(
 simp only [Act.put, List.setIfInBounds_toArray, List.set_cons_zero, List.set_cons_succ, i64_w, i32_w]
 rfl)
 refine one_ (i := 2) (N := some 5) #[true, true, true, false, false] rfl rfl (by kernel_rfl) (by decide) (fun K hK => ?_)
 refine gs_ Try.func87 #[.agg #[.int .i64 a0_0, .string a0_1, .int .i64 a0_2, .bool a0_3, .int .i64 a0_4, .string a0_5, .int .i64 a0_6, .string a0_7, .slice A0_8 l0_8.length c0_8]] ?_
 with_reducible refine (Di.calls a0_0 a0_1 a0_2 a0_3 a0_4 a0_5 a0_6 a0_7 _ _ l0_8 t109 t110 t111 t112 t113 t114 t115 t116 t117 _ ?side1 ?side2 A2.out).mono ?_
 (case side1 => repeat (first | exact (Kd.C_below HR0_8.out HB.out) | (with_reducible refine Kd.C_alloc ?_ _) | (with_reducible refine Kd.C_drewN ?_ _) | (with_reducible refine Kd.C_drew ?_)))
 (case side2 => exact HC0_8.out)
 rintro e w92 ⟨v118, rfl, ho0, hb⟩
 refine ⟨_, rfl, ?_⟩
 have HO119 := Aa.mk (Kd.R_lower (Kd.R_newB ho0 (by (with_reducible repeat (first | refine Ag ?_ _ | refine Af ?_ | refine Ae ?_ _)); exact BK108.out)) (Ca (by repeat (first | (with_reducible first | exact HB.out | apply Ak | apply Ah | apply Aj | refine Ao ?_ GE108.out) | exact HB.out)))); replace BK108 := bk_ BK108 hb; replace HB := bs_ HB hb
 (try clear hb)
 (try clear hb2)
 (try clear hk)
 (try clear hi)
 (try clear ho0)
 obtain ⟨Ao93, co93, eo93⟩ := Kd.R_slice HO119.out
 (first | subst eo93 | (injection eo93 with f1_ f2_ f3_; have f4_ := f1_.symm; have f5_ := f3_.symm; clear f1_ f2_ f3_; subst f4_; subst f5_))
 refine hK.out _ _ ⟨(Ab BK108.out 0).trans rfl, (Ab BK108.out 1).trans rfl, (Ab BK108.out 2).trans rfl, (Ab BK108.out 3).trans rfl, (Ab BK108.out 4).trans rfl, (Ab BK108.out 5).trans rfl, (Ab BK108.out 6).trans rfl, (Ab BK108.out 7).trans rfl, (Ab BK108.out 8).trans rfl⟩ (fun hHeld => ?_)
 clear hK K
 refine norm_ (a' := ?_) ?_ ?_
 rotate_left
 ·(
 show Act.put _ (some 5) _ = _
 simp only [Act.put, List.setIfInBounds_toArray, List.set_cons_zero, List.set_cons_succ, i64_w, i32_w]
 rfl)
 refine one_ (i := 3) (N := some 6) #[true, true, true, true, false] rfl rfl (by kernel_rfl) (by decide) (fun K hK => ?_)
 refine gs_ Try.func86 #[.agg #[.int .i64 a0_0, .string a0_1, .int .i64 a0_2, .bool a0_3, .int .i64 a0_4, .string a0_5, .int .i64 a0_6, .string a0_7, .slice A0_8 l0_8.length c0_8], .agg #[.int .i64 t109, .string t110, .int .i64 t111, .bool t112, .int .i64 t113, .string t114, .int .i64 t115, .string t116, .slice Ao93 t117.length co93]] ?_
 with_reducible refine (Dh.calls a0_0 a0_1 a0_2 a0_3 a0_4 a0_5 a0_6 a0_7 _ _ l0_8 t109 t110 t111 t112 t113 t114 t115 t116 _ _ t117 false _ ?side1 ?side2 ?side3 ?side4 A3.out).mono ?_
 (case side1 => repeat (first | exact (Kd.C_below HR0_8.out HB.out) | (with_reducible refine Kd.C_alloc ?_ _) | (with_reducible refine Kd.C_drewN ?_ _) | (with_reducible refine Kd.C_drew ?_)))
 (case side2 => exact HC0_8.out)
 (case side3 => repeat (first | exact (Kd.R_reads' HO119.out).2.2 | (with_reducible refine Kd.C_alloc ?_ _) | (with_reducible refine Kd.C_drewN ?_ _) | (with_reducible refine Kd.C_drew ?_)))
 (case side4 => exact (Kd.R_reads' HO119.out).2.1)
 rintro e w94 ⟨rfl, hb⟩
 refine ⟨_, rfl, ?_⟩
 replace HO119 := Aa.mk (Kd.R_below (by (with_reducible repeat (first | apply Kd.R_alloc | apply Kd.R_drewN | apply Kd.R_drew)); exact HO119.out) hb); replace BK108 := bk_ BK108 hb; replace HB := bs_ HB hb
 (try clear hb)
 refine hK.out _ _ ⟨(Ab BK108.out 0).trans rfl, (Ab BK108.out 1).trans rfl, (Ab BK108.out 2).trans rfl, (Ab BK108.out 3).trans rfl, (Ab BK108.out 4).trans rfl, (Ab BK108.out 5).trans rfl, (Ab BK108.out 6).trans rfl, (Ab BK108.out 7).trans rfl, (Ab BK108.out 8).trans rfl⟩ (fun hHeld => ?_)
 clear hK K
 refine norm_ (a' := ?_) ?_ ?_
 rotate_left
 ·(
 show Act.put _ (some 6) _ = _
 simp only [Act.put, List.setIfInBounds_toArray, List.set_cons_zero, List.set_cons_succ, i64_w, i32_w]
 rfl)
 refine pure_ (i := 4) (N := some 7) (v := ?_) (a' := ?_) #[true, true, true, true, true] rfl rfl (by kernel_rfl) (fun _ _ _ h => h) (Or.inl ⟨by rfl, ?_⟩) ?_ ?_
 rotate_left
 ·(
 intro w'
 go_simp
 with_reducible rfl)
 rotate_left
 ·(
 simp only [Act.put, List.setIfInBounds_toArray, List.set_cons_zero, List.set_cons_succ, i64_w, i32_w]
 rfl)
 refine done_ (by kernel_rfl) ?_
 try go_wp2
 go_ret
 exact en_ HB)
def pred_list.f (a0_0 : Int) (a0_1 : ByteArray) (a0_2 : Int) (a0_3 : Bool) (a0_4 : Int) (a0_5 : ByteArray) (a0_6 : Int) (a0_7 : ByteArray) (l0_8 : List (S27)) : Option (Bool) := if a0_0 = 6 then (some true) else (some (a0_0 == 7))
theorem pred_list.calls (a0_0 : Int) (a0_1 : ByteArray) (a0_2 : Int) (a0_3 : Bool) (a0_4 : Int) (a0_5 : ByteArray) (a0_6 : Int) (a0_7 : ByteArray) (A0_8 : Option Addr) (c0_8 : Nat) (l0_8 : List (S27)) (r : Bool) (w : World) (hr0_8 : Kd.C k27 w A0_8 l0_8.length l0_8) (hc0_8 : l0_8.length ≤ c0_8) (h : pred_list.f a0_0 a0_1 a0_2 a0_3 a0_4 a0_5 a0_6 a0_7 l0_8 = some r) :
  Calls Try.prog 88 #[.agg #[.int .i64 a0_0, .string a0_1, .int .i64 a0_2, .bool a0_3, .int .i64 a0_4, .string a0_5, .int .i64 a0_6, .string a0_7, .slice A0_8 l0_8.length c0_8]] w fun e w' => e = .returned (.bool r) ∧ Below w.heap.size w w' := by
 have hu27 := Try.underlying27
 have HR0_8 := Aa.mk hr0_8
 have HC0_8 := Aa.mk hc0_8
 clear hr0_8 hc0_8
 have HB := Aa.mk (Below.refl w.heap.size w)
 have H : (if a0_0 = 6 then (some true) else (some (a0_0 == 7))) = some r := h
 clear h
 by_cases c2 : a0_0 = 6
 rotate_left
 focus(
 rw [if_neg c2] at H
 have c2b0 : (a0_0 == 6) = false := Dj c2
 have c2b1 : (a0_0 != 6) = true := Dm c2)
 rotate_right
 focus(
 rw [if_pos c2] at H
 have c2b0 : (a0_0 == 6) = true := Dl c2
 have c2b1 : (a0_0 != 6) = false := Dk c2
 clear c2)
 all_goals(
 obtain rfl := Dp H
 go_enter Try.func88, Try.ntmps88
 go_wp2_with (first | (refine bx_ (N := 1) (cs := #[.int .i64 a0_0, .string a0_1, .int .i64 a0_2, .bool a0_3, .int .i64 a0_4, .string a0_5, .int .i64 a0_6, .string a0_7, .slice A0_8 l0_8.length c0_8]) (t := 27) ?_; intro gb125 hg w3 hbox hb; have BK125 := Aa.mk (hbox); have GW125 := ge_ HB hg; have GE125 := ge_ HB hg; replace HB := bs_ HB hb; clear hb hbox hg; obtain ⟨C4_0, C4_1, C4_2, C4_3, C4_4, C4_5, C4_6, C4_7, C4_8⟩ := zc9_ BK125.out; obtain ⟨F4_0, F4_1, F4_2, F4_3, F4_4, F4_5, F4_6, F4_7, F4_8⟩ := zf9_ BK125.out))
 go_ret
 exact en_ HB)
set_option maxHeartbeats 1000000 in
theorem api_Pred_107.at (g : Nat) (lb : Array Value) (eg : ∀ args w, (callFunc g args).run Try.prog w = .ok (.enter g args) w) (p : S27 → Bool) (A : Option Addr) (c : Nat) (l : List S27) (w : World)
    (hr : Kd.C k27 w A l.length l) (hc : l.length ≤ c) (hp : ∀ (W : World) (x : S27) (A8 : Option Addr) (c8 : Nat), Below w.heap.size w W → x.f6.length ≤ c8 → Kd.C k27 W A8 x.f6.length x.f6 →
      Calls Try.prog g (#[.agg #[.int .i64 x.f0, .string x.f1, .int .i64 x.f2, .bool x.f3.f0, .int .i64 x.f3.f1, .string x.f3.f2, .int .i64 x.f4, .string x.f5, .slice A8 x.f6.length c8]] ++ lb) W fun e w' => e = .returned (.bool (p x)) ∧ Below W.heap.size W w') :
    Calls Try.prog 107 #[.slice A l.length c, .func (.func g) #[] lb] w fun e w' => e = .returned (.int .i64 (idxOf p l)) ∧ Below w.heap.size w w' := by
  have HR := Aa.mk hr
  have HP := Aa.mk hp
  have hm := Kd.C_max hr
  clear hr hp
  go_enter Try.func107, Try.ntmps107
  go_wp2
  go_loopg [5, 8] l.length (fun gg _ s8 wr => ∃ kk : Nat, kk ≤ l.length ∧ l.length - kk ≤ gg ∧ s8 = .int .i64 kk ∧ Aa (Below w.heap.size w wr) ∧ Aa (∀ j y, j < kk → l[j]? = some y → p y = false))
  case atStart => exact ⟨0, Nat.zero_le _, by omega, rfl, ⟨Below.refl _ w⟩, ⟨fun j y hj => absurd hj (Nat.not_lt_zero _)⟩⟩
  case round =>
    obtain ⟨kk, hkk, hg, rfl, BW, HA⟩ := hrel
    by_cases hlt : kk < l.length
    · have hltz : (kk : Int) < (l.length : Int) := by omega
      obtain ⟨ad, A8, c8, e, h0, h1, h2, h3, h4, h5, h6, h7, h8, hl8, hk8⟩ := at_T27 (Kd.C_below HR.out BW.out) (kk : Int) (by omega) (by omega)
      cases e
      simp only [Int.toNat_natCast] at h0 h1 h2 h3 h4 h5 h6 h7 h8
      have hx : l[kk]? = some (Al l kk) := by
        simp [Al, List.getElem?_eq_getElem hlt, List.getD_eq_getElem?_getD]
      have hcall := HP.out wr (Al l kk) A8 c8 BW.out hl8 hk8
      have HX := Aa.mk hx
      clear hx hl8 hk8
      generalize Al l kk = y at h0 h1 h2 h3 h4 h5 h6 h7 h8 hcall HX
      cases hq : p y with
      | true =>
        rw [hq] at hcall
        go_wp2_with (go_at_fn g; refine hcall.mono ?_; rintro e w' ⟨rfl, hb'⟩)
        go_ret
        exact ⟨(by rw [idxOf_hit p l kk y HX.out hq HA.out]; rfl), Cp BW.out hb'⟩
      | false =>
        rw [hq] at hcall
        go_wp2_with (go_at_fn g; refine hcall.mono ?_; rintro e w' ⟨rfl, hb'⟩)
        go_roundg (l.length - (kk + 1))
        case measure => omega
        case rel =>
          refine ⟨kk + 1, by omega, by omega, by go_num, ⟨Cp BW.out hb'⟩, ⟨fun j z hj hz => ?_⟩⟩
          by_cases e : j = kk
          · subst e
            have := HX.out
            rw [this] at hz
            injection hz with hz
            rw [← hz]; exact hq
          · exact HA.out j z (by omega) hz
    · have hltz : ¬ (kk : Int) < (l.length : Int) := by omega
      have : kk = l.length := by omega
      subst this
      go_wp2
      go_ret
      refine ⟨?_, BW.out⟩
      rw [idxOf_miss p l (fun j y hy => HA.out j y (List.getElem?_eq_some_iff.1 hy).1 hy)]; rfl
set_option maxHeartbeats 1000000 in
theorem api_Pred_89.at (g : Nat) (lb : Array Value) (eg : ∀ args w, (callFunc g args).run Try.prog w = .ok (.enter g args) w) (p : S27 → Bool) (A : Option Addr) (c : Nat) (l : List S27) (w : World)
    (hr : Kd.C k27 w A l.length l) (hc : l.length ≤ c) (hp : ∀ (W : World) (x : S27) (A8 : Option Addr) (c8 : Nat), Below w.heap.size w W → x.f6.length ≤ c8 → Kd.C k27 W A8 x.f6.length x.f6 →
      Calls Try.prog g (#[.agg #[.int .i64 x.f0, .string x.f1, .int .i64 x.f2, .bool x.f3.f0, .int .i64 x.f3.f1, .string x.f3.f2, .int .i64 x.f4, .string x.f5, .slice A8 x.f6.length c8]] ++ lb) W fun e w' => e = .returned (.bool (p x)) ∧ Below W.heap.size W w') :
    Calls Try.prog 89 #[.slice A l.length c, .func (.func g) #[] lb] w fun e w' => e = .returned (.bool (l.any p)) ∧ Below w.heap.size w w' := by
  have hcon := api_Pred_107.at g lb eg p A c l w hr hc hp
  rw [← idxOf_any]
  clear hr hp eg
  generalize idxOf p l = r at hcon ⊢
  go_enter Try.func89, Try.ntmps89
  go_wp2_with (go_at_call 107; refine hcon.mono ?_; rintro e w' ⟨rfl, hb'⟩)
  go_ret
  exact ⟨by first | rfl | (simp; done), hb'⟩
set_option maxHeartbeats 1000000 in
theorem pred_kids.closure (B : Nat) (op : Int) (x : S27) (A8 : Option Addr) (c8 : Nat) (W : World) (hc : W.cell? ⟨B, 0, none⟩ = some (.int .i64 op)) (hB : B < W.heap.size) :
    Calls Try.prog 90 #[.agg #[.int .i64 x.f0, .string x.f1, .int .i64 x.f2, .bool x.f3.f0, .int .i64 x.f3.f1, .string x.f3.f2, .int .i64 x.f4, .string x.f5, .slice A8 x.f6.length c8], .pointer (some ⟨B, 0, none⟩)] W fun e w' => e = .returned (.bool (x.f0 == op)) ∧ Below W.heap.size W w' := by
 have hu := Try.underlying27
 have hne : B ≠ W.heap.size := by omega
 go_enter Try.func90, Try.ntmps90
 go_wp2
 go_ret
 exact ⟨by first | rfl | (simp; done), (Below.refl _ W).alloc (Nat.le_refl _) _⟩
def kidsB (op : Int) (ks : List S27) : Bool := if op = 6 ∨ op = 7 then decide (2 ≤ ks.length) && !(ks.any fun k => k.f0 == op) else if op = 5 then ks.length == 1 else ks.length == 0
def pred_kids.f (a0_0 : Int) (a0_1 : ByteArray) (a0_2 : Int) (a0_3 : Bool) (a0_4 : Int) (a0_5 : ByteArray) (a0_6 : Int) (a0_7 : ByteArray) (l0_8 : List S27) : Option Bool := some (kidsB a0_0 l0_8)
theorem list_some (a0_0 : Int) (a0_1 : ByteArray) (a0_2 : Int) (a0_3 : Bool) (a0_4 : Int) (a0_5 : ByteArray) (a0_6 : Int) (a0_7 : ByteArray) (l0_8 : List S27) :
    pred_list.f a0_0 a0_1 a0_2 a0_3 a0_4 a0_5 a0_6 a0_7 l0_8 = some (decide (a0_0 = 6 ∨ a0_0 = 7)) := by
 unfold pred_list.f
 by_cases h6 : a0_0 = 6 <;> by_cases h7 : a0_0 = 7 <;> simp [h6, h7]
theorem pred_kids.calls (a0_0 : Int) (a0_1 : ByteArray) (a0_2 : Int) (a0_3 : Bool) (a0_4 : Int) (a0_5 : ByteArray) (a0_6 : Int) (a0_7 : ByteArray) (A0_8 : Option Addr) (c0_8 : Nat) (l0_8 : List (S27)) (r : Bool) (w : World) (hr0_8 : Kd.C k27 w A0_8 l0_8.length l0_8) (hc0_8 : l0_8.length ≤ c0_8) (h : pred_kids.f a0_0 a0_1 a0_2 a0_3 a0_4 a0_5 a0_6 a0_7 l0_8 = some r) :
    Calls Try.prog 65 #[.agg #[.int .i64 a0_0, .string a0_1, .int .i64 a0_2, .bool a0_3, .int .i64 a0_4, .string a0_5, .int .i64 a0_6, .string a0_7, .slice A0_8 l0_8.length c0_8]] w fun e w' => e = .returned (.bool r) ∧ Below w.heap.size w w' := by
 simp only [pred_kids.f, Option.some.injEq] at h
 have hm := Kd.C_max hr0_8
 have eg : ∀ args w, (callFunc 90 args).run Try.prog w = .ok (.enter 90 args) w := enters_of Try.func90 (by kernel_rfl) rfl
 have hu := Try.underlying27
 have HR := Aa.mk hr0_8
 clear hr0_8
 have H := Aa.mk h
 clear h
 obtain ⟨W1, hW1⟩ : ∃ W1, W1 = w.alloc (.cells #[.int .i64 a0_0, .string a0_1, .int .i64 a0_2, .bool a0_3, .int .i64 a0_4, .string a0_5, .int .i64 a0_6, .string a0_7, .slice A0_8 l0_8.length c0_8] 27) := ⟨_, rfl⟩
 have hcl := pred_list.calls a0_0 a0_1 a0_2 a0_3 a0_4 a0_5 a0_6 a0_7 A0_8 c0_8 l0_8 _ W1 (by rw [hW1]; exact Kd.C_alloc HR.out _) hc0_8 (list_some a0_0 a0_1 a0_2 a0_3 a0_4 a0_5 a0_6 a0_7 l0_8)
 rw [hW1] at hcl
 subst hW1
 generalize hdl : decide (a0_0 = 6 ∨ a0_0 = 7) = dl at hcl
 have HDL := Aa.mk hdl
 clear hdl
 go_enter Try.func65, Try.ntmps65
 go_wp2_with fail
 refine hcl.mono ?_
 rintro e w1 ⟨rfl, hb⟩
 clear hcl
 have hz0 := (hb.cell (p := ⟨w.heap.size, 0, none⟩) (by simp)).trans (show _ = some (.int .i64 a0_0) by simp)
 have hz8 := (hb.cell (p := ⟨w.heap.size, 8, none⟩) (by simp)).trans (show _ = some (.slice A0_8 l0_8.length c0_8) by simp)
 have hbs : w.heap.size < w1.heap.size := by have := hb.size; simp at this; omega
 have HB := Aa.mk (Cp (Ak (Below.refl _ w) _) hb)
 clear hb
 cases dl with
 | true =>(
 have hop := of_decide_eq_true HDL.out
 have hr : (decide (2 ≤ l0_8.length) && !(l0_8.any fun k => k.f0 == a0_0)) = r := by rw [← H.out, kidsB, if_pos hop]
 have HRR := Aa.mk hr
 clear hr hop
 by_cases h2 : 2 ≤ l0_8.length
 ·(
 have h2' : (2 : Int) ≤ l0_8.length := by omega
 have hcon := api_Pred_89.at 90 #[.pointer (some ⟨w.heap.size, 0, none⟩)] eg (fun k => k.f0 == a0_0) A0_8 c0_8 l0_8 w1 (Kd.C_below HR.out HB.out) hc0_8
  (fun W x A8 c8 hb _ _ => pred_kids.closure w.heap.size a0_0 x A8 c8 W ((hb.cell (p := ⟨w.heap.size, 0, none⟩) hbs).trans hz0) (Nat.lt_of_lt_of_le hbs hb.size))
 have hr := HRR.out
 rw [decide_eq_true h2, Bool.true_and] at hr
 generalize (l0_8.any fun k => k.f0 == a0_0) = q at hcon hr
 subst hr
 go_wp2_with fail
 refine hcon.mono ?_
 rintro e w2 ⟨rfl, hb2⟩
 have HB2 := Aa.mk (Cp HB.out hb2)
 clear hb2
 go_wp2
 go_ret
 exact ⟨by first | rfl | (simp; done), HB2.out⟩)
 ·(
 have h2' : ¬ (2 : Int) ≤ l0_8.length := by omega
 have hr := HRR.out
 rw [decide_eq_false h2, Bool.false_and] at hr
 subst hr
 go_wp2
 go_ret
 exact ⟨by first | rfl | (simp; done), HB.out⟩))
 | false =>(
 have hop := of_decide_eq_false HDL.out
 by_cases h5 : a0_0 = 5
 ·(
 have hr : (l0_8.length == 1) = r := by rw [← H.out, kidsB, if_neg hop, if_pos h5]
 have h5' : (a0_0 == 5) = true := by simpa using h5
 have hr' : ((l0_8.length : Int) == 1) = r := by rw [← hr]; rw [Bool.eq_iff_iff]; simp; omega
 have HRR := Aa.mk hr'
 clear hr hr' hop h5
 go_wp2
 go_ret
 exact ⟨by rw [← HRR.out]; first | rfl | (simp; done), HB.out⟩)
 ·(
 have hr : (l0_8.length == 0) = r := by rw [← H.out, kidsB, if_neg hop, if_neg h5]
 have h5' : (a0_0 == 5) = false := by simpa using h5
 have hr' : ((l0_8.length : Int) == 0) = r := by rw [← hr]; rw [Bool.eq_iff_iff]; simp
 have HRR := Aa.mk hr'
 clear hr hr' hop h5
 go_wp2
 go_ret
 exact ⟨by rw [← HRR.out]; first | rfl | (simp; done), HB.out⟩))
def fieldsB (x : S27) : Bool := (Da.f x.f0 x.f1 x.f2 x.f3.f0 x.f3.f1 x.f3.f2 x.f4 x.f5 x.f6).getD false
theorem fields_some (x : S27) : Da.f x.f0 x.f1 x.f2 x.f3.f0 x.f3.f1 x.f3.f2 x.f4 x.f5 x.f6 = some (fieldsB x) := by
 refine Ans.getD ?_ false
 unfold Da.f Dh.f Di.f Bt.f Br.f
 repeat' (first | exact Ans.some_ _ | refine Ans.ite ?_ ?_ | refine Ans.bind ?_ (fun _ => ?_))
def mayStep (x : S27) (n : Int) : Bool × Int := (decide (wrap64 (n + 1) ≤ 16) && (fieldsB x && kidsB x.f0 x.f6), wrap64 (n + 1))
def CellInt (B : Nat) (n : Int) (W : World) : Prop := W.heap[B]? = some (.cells #[.int .i64 n] 3 (0, 0))
set_option maxHeartbeats 4000000 in
theorem pred_May.closure (B : Nat) (w0 : World) (hB0 : w0.heap.size ≤ B) : Steps mayStep 63 #[.pointer (some ⟨B, 0, none⟩)] B w0 (CellInt B) := by
 intro W n x A8 c8 hw hB hI hl hk
 have hu := Try.underlying27
 have hm := Kd.C_max hk
 have hne : B ≠ W.heap.size := by omega
 have hcB : W.cell? ⟨B, 0, none⟩ = some (.int .i64 n) := (Ab hI 0).trans rfl
 have hfB : W.frozen? ⟨B, 0, none⟩ = false := Bm hI 0
 have HW := Aa.mk hw
 have HK := Aa.mk hk
 have hsz : (W.setCell ⟨B, 0, none⟩ (.int .i64 (wrap64 (n + 1)))).heap.size = W.heap.size := by simp [World.setCell]
 have HI2 : Aa (CellInt B (wrap64 (n + 1)) ((W.setCell ⟨B, 0, none⟩ (.int .i64 (wrap64 (n + 1)))).alloc (.cells #[.int .i64 x.f0, .string x.f1, .int .i64 x.f2, .bool x.f3.f0, .int .i64 x.f3.f1, .string x.f3.f2, .int .i64 x.f4, .string x.f5, .slice A8 x.f6.length c8] 27))) := ⟨Ae (blk_set hI 0 (.int .i64 (wrap64 (n + 1)))) _⟩
 have HB2 := Aa.mk (Ak (Ao (j := 0) (v := .int .i64 (wrap64 (n + 1))) hw hB0) (.cells #[.int .i64 x.f0, .string x.f1, .int .i64 x.f2, .bool x.f3.f0, .int .i64 x.f3.f1, .string x.f3.f2, .int .i64 x.f4, .string x.f5, .slice A8 x.f6.length c8] 27))
 have HK2 := Aa.mk (keep_alloc (KeepBut.set_ (KeepBut.refl W B none) 0 (.int .i64 (wrap64 (n + 1)))) (.cells #[.int .i64 x.f0, .string x.f1, .int .i64 x.f2, .bool x.f3.f0, .int .i64 x.f3.f1, .string x.f3.f2, .int .i64 x.f4, .string x.f5, .slice A8 x.f6.length c8] 27))
 have hbx : ((W.setCell ⟨B, 0, none⟩ (.int .i64 (wrap64 (n + 1)))).alloc (.cells #[.int .i64 x.f0, .string x.f1, .int .i64 x.f2, .bool x.f3.f0, .int .i64 x.f3.f1, .string x.f3.f2, .int .i64 x.f4, .string x.f5, .slice A8 x.f6.length c8] 27)).heap[W.heap.size]? = some (.cells #[.int .i64 x.f0, .string x.f1, .int .i64 x.f2, .bool x.f3.f0, .int .i64 x.f3.f1, .string x.f3.f2, .int .i64 x.f4, .string x.f5, .slice A8 x.f6.length c8] 27 (0, 0)) := by(
 have := heap_alloc_new (W.setCell ⟨B, 0, none⟩ (.int .i64 (wrap64 (n + 1)))) (.cells #[.int .i64 x.f0, .string x.f1, .int .i64 x.f2, .bool x.f3.f0, .int .i64 x.f3.f1, .string x.f3.f2, .int .i64 x.f4, .string x.f5, .slice A8 x.f6.length c8] 27)
 rw [hsz] at this
 exact this)
 have HX := Aa.mk hbx
 generalize hst : mayStep x n = res
 have HS := Aa.mk hst
 have hfl := fun W2 (h2 : Kd.C k27 W2 A8 x.f6.length x.f6) => Da.calls x.f0 x.f1 x.f2 x.f3.f0 x.f3.f1 x.f3.f2 x.f4 x.f5 A8 c8 x.f6 _ W2 h2 hl (fields_some x)
 have hkd := fun W2 (h2 : Kd.C k27 W2 A8 x.f6.length x.f6) => pred_kids.calls x.f0 x.f1 x.f2 x.f3.f0 x.f3.f1 x.f3.f2 x.f4 x.f5 A8 c8 x.f6 _ W2 h2 hl rfl
 have HF := Aa.mk (hfl _ (Kd.C_below HK.out HB2.out))
 have HD := Aa.mk hkd
 clear hst hw hk hI hbx hsz hfl hkd
 by_cases h16 : wrap64 (n + 1) ≤ 16
 ·(
 have hd16 : decide (wrap64 (n + 1) ≤ 16) = true := decide_eq_true h16
 have hr : (fieldsB x && kidsB x.f0 x.f6, wrap64 (n + 1)) = res := by rw [← HS.out, mayStep, hd16, Bool.true_and]
 clear HS h16
 generalize fieldsB x = fb at HF hr
 generalize kidsB x.f0 x.f6 = kb at HD hr
 subst hr
 have hcf := HF.out
 clear HF
 cases fb with
 | false =>(
 go_enter Try.func63, Try.ntmps63
 go_wp2_with fail
 refine hcf.mono ?_
 rintro e w2 ⟨rfl, hb⟩
 have HI3 : Aa (CellInt B (wrap64 (n + 1)) w2) := ⟨Ct HI2.out hb⟩
 have HB3 := Aa.mk (Cp HB2.out hb)
 have HK3 := Aa.mk (HK2.out.trans (KeepBut.of_below hb B none) (.inl rfl))
 clear hb hcf
 go_wp2
 go_ret
 exact ⟨rfl, HI3.out, HB3.out, HK3.out⟩)
 | true =>(
 go_enter Try.func63, Try.ntmps63
 go_wp2_with fail
 refine hcf.mono ?_
 rintro e w2 ⟨rfl, hb⟩
 have HI3 : Aa (CellInt B (wrap64 (n + 1)) w2) := ⟨Ct HI2.out hb⟩
 have HB3 := Aa.mk (Cp HB2.out hb)
 have HK3 := Aa.mk (HK2.out.trans (KeepBut.of_below hb B none) (.inl rfl))
 have hbx := Ct HX.out hb
 have hz0 := (Ab hbx 0).trans rfl
 have hz1 := (Ab hbx 1).trans rfl
 have hz2 := (Ab hbx 2).trans rfl
 have hz3 := (Ab hbx 3).trans rfl
 have hz4 := (Ab hbx 4).trans rfl
 have hz5 := (Ab hbx 5).trans rfl
 have hz6 := (Ab hbx 6).trans rfl
 have hz7 := (Ab hbx 7).trans rfl
 have hz8 := (Ab hbx 8).trans rfl
 have hcd := HD.out w2 (Kd.C_below HK.out HB3.out)
 clear hb hcf hbx
 go_wp2_with fail
 refine hcd.mono ?_
 rintro e w3 ⟨rfl, hb⟩
 have HI4 : Aa (CellInt B (wrap64 (n + 1)) w3) := ⟨Ct HI3.out hb⟩
 have HB4 := Aa.mk (Cp HB3.out hb)
 have HK4 := Aa.mk (HK3.out.trans (KeepBut.of_below hb B none) (.inl rfl))
 clear hb hcd
 go_wp2
 go_ret
 exact ⟨by first | rfl | (simp; done), HI4.out, HB4.out, HK4.out⟩))
 ·(
 have hd16 : decide (wrap64 (n + 1) ≤ 16) = false := decide_eq_false h16
 have hr : (false, wrap64 (n + 1)) = res := by rw [← HS.out, mayStep, hd16, Bool.false_and]
 clear HS h16
 subst hr
 go_enter Try.func63, Try.ntmps63
 go_wp2
 go_ret
 exact ⟨rfl, HI2.out, HB2.out, HK2.out⟩)
def pred_May.f (a0_0 : Int) (a0_1 : ByteArray) (a0_2 : Int) (a0_3 : Bool) (a0_4 : Int) (a0_5 : ByteArray) (a0_6 : Int) (a0_7 : ByteArray) (l0_8 : List S27) : Option Bool := some (ev mayStep 6 ⟨a0_0, a0_1, a0_2, ⟨a0_3, a0_4, a0_5⟩, a0_6, a0_7, l0_8⟩ 0).1
theorem pred_May.calls (a0_0 : Int) (a0_1 : ByteArray) (a0_2 : Int) (a0_3 : Bool) (a0_4 : Int) (a0_5 : ByteArray) (a0_6 : Int) (a0_7 : ByteArray) (A0_8 : Option Addr) (c0_8 : Nat) (l0_8 : List (S27)) (r : Bool) (w : World) (hr0_8 : Kd.C k27 w A0_8 l0_8.length l0_8) (hc0_8 : l0_8.length ≤ c0_8) (h : pred_May.f a0_0 a0_1 a0_2 a0_3 a0_4 a0_5 a0_6 a0_7 l0_8 = some r) :
    Calls Try.prog 43 #[.agg #[.int .i64 a0_0, .string a0_1, .int .i64 a0_2, .bool a0_3, .int .i64 a0_4, .string a0_5, .int .i64 a0_6, .string a0_7, .slice A0_8 l0_8.length c0_8]] w fun e w' => e = .returned (.bool r) ∧ Below w.heap.size w w' := by
 simp only [pred_May.f, Option.some.injEq] at h
 have eg : ∀ args w, (callFunc 63 args).run Try.prog w = .ok (.enter 63 args) w := enters_of Try.func63 (by kernel_rfl) rfl
 have hu := Try.underlying27
 have hm := Kd.C_max hr0_8
 obtain ⟨W2, hW2⟩ : ∃ W2, W2 = (w.alloc (.cells #[.int .i64 a0_0, .string a0_1, .int .i64 a0_2, .bool a0_3, .int .i64 a0_4, .string a0_5, .int .i64 a0_6, .string a0_7, .slice A0_8 l0_8.length c0_8] 27)).alloc (.cells #[.int .i64 0] 3) := ⟨_, rfl⟩
 have hcon := pred_every.at mayStep 63 #[.pointer (some ⟨w.heap.size + 1, 0, none⟩)] eg (w.heap.size + 1) w (by omega) (CellInt (w.heap.size + 1)) (fun s W o hI => Ae hI o)
  (pred_May.closure (w.heap.size + 1) w (by omega)) 6 ⟨a0_0, a0_1, a0_2, ⟨a0_3, a0_4, a0_5⟩, a0_6, a0_7, l0_8⟩ A0_8 c0_8 0 W2 (by omega)
  (by rw [hW2]; exact Ak (Ak (Below.refl _ w) _) _) (by rw [hW2]; simp) (by rw [hW2]; have := heap_alloc_new (w.alloc (.cells #[.int .i64 a0_0, .string a0_1, .int .i64 a0_2, .bool a0_3, .int .i64 a0_4, .string a0_5, .int .i64 a0_6, .string a0_7, .slice A0_8 l0_8.length c0_8] 27)) (.cells #[.int .i64 0] 3); simpa [CellInt] using this) hc0_8 hr0_8
 simp only at hcon
 rw [hW2] at hcon
 subst hW2
 generalize (ev mayStep 6 ⟨a0_0, a0_1, a0_2, ⟨a0_3, a0_4, a0_5⟩, a0_6, a0_7, l0_8⟩ 0) = res at hcon h
 subst h
 clear hr0_8 eg
 go_enter Try.func43, Try.ntmps43
 go_wp2_with fail
 refine hcon.mono ?_
 rintro e w' ⟨rfl, hI, hb, hk⟩
 have HB := Aa.mk hb
 clear hI hb hk hcon
 go_wp2
 go_ret
 exact ⟨rfl, HB.out⟩
set_option maxHeartbeats 1000000 in
theorem api_Col_91.at (g : Nat) (lb : Array Value) (eg : ∀ args w, (callFunc g args).run Try.prog w = .ok (.enter g args) w) (p : S64 → Bool) (A : Option Addr) (c : Nat) (l : List (S64)) (w : World)
    (hr : Kd.C k64 w A l.length l) (hc : l.length ≤ c) (hp : ∀ (W : World) (x : S64), Below w.heap.size w W → Calls Try.prog g (#[.agg #[.string x.f0, .int .i64 x.f1, .bool x.f2]] ++ lb) W fun e w' => e = .returned (.bool (p x)) ∧ Below W.heap.size W w') :
    Calls Try.prog 91 #[.slice A l.length c, .func (.func g) #[] lb] w fun e w' => e = .returned (.int .i64 (idxOf p l)) ∧ Below w.heap.size w w' := by
  have HR := Aa.mk hr
  have HP := Aa.mk hp
  have hm := Kd.C_max hr
  clear hr hp
  go_enter Try.func91, Try.ntmps91
  go_wp2
  go_loopg [5, 8] l.length (fun gg _ s8 wr => ∃ kk : Nat, kk ≤ l.length ∧ l.length - kk ≤ gg ∧ s8 = .int .i64 kk ∧ Aa (Below w.heap.size w wr) ∧ Aa (∀ j y, j < kk → l[j]? = some y → p y = false))
  case atStart => exact ⟨0, Nat.zero_le _, by omega, rfl, ⟨Below.refl _ w⟩, ⟨fun j y hj => absurd hj (Nat.not_lt_zero _)⟩⟩
  case round =>
    obtain ⟨kk, hkk, hg, rfl, BW, HA⟩ := hrel
    by_cases hlt : kk < l.length
    · have hltz : (kk : Int) < (l.length : Int) := by omega
      obtain ⟨ad, e, h0, h1, h2⟩ := at_T64 (Kd.C_below HR.out BW.out) (kk : Int) (by omega) (by omega)
      cases e
      simp only [Int.toNat_natCast] at h0 h1 h2
      have hx : l[kk]? = some (Bj l kk) := by
        simp [Bj, List.getElem?_eq_getElem hlt, List.getD_eq_getElem?_getD]
      have hcall := HP.out wr (Bj l kk) BW.out
      have HX := Aa.mk hx
      clear hx
      generalize Bj l kk = y at h0 h1 h2 hcall HX
      cases hq : p y with
      | true =>
        rw [hq] at hcall
        go_wp2_with (go_at_fn g; refine hcall.mono ?_; rintro e w' ⟨rfl, hb'⟩)
        go_ret
        exact ⟨(by rw [idxOf_hit p l kk y HX.out hq HA.out]; rfl), Cp BW.out hb'⟩
      | false =>
        rw [hq] at hcall
        go_wp2_with (go_at_fn g; refine hcall.mono ?_; rintro e w' ⟨rfl, hb'⟩)
        go_roundg (l.length - (kk + 1))
        case measure => omega
        case rel =>
          refine ⟨kk + 1, by omega, by omega, by go_num, ⟨Cp BW.out hb'⟩, ⟨fun j z hj hz => ?_⟩⟩
          by_cases e : j = kk
          · subst e
            have := HX.out
            rw [this] at hz
            injection hz with hz
            rw [← hz]; exact hq
          · exact HA.out j z (by omega) hz
    · have hltz : ¬ (kk : Int) < (l.length : Int) := by omega
      have : kk = l.length := by omega
      subst this
      go_wp2
      go_ret
      refine ⟨?_, BW.out⟩
      rw [idxOf_miss p l (fun j y hy => HA.out j y (List.getElem?_eq_some_iff.1 hy).1 hy)]; rfl
set_option maxHeartbeats 1000000 in
theorem api_Col_66.at (g : Nat) (lb : Array Value) (eg : ∀ args w, (callFunc g args).run Try.prog w = .ok (.enter g args) w) (p : S64 → Bool) (A : Option Addr) (c : Nat) (l : List (S64)) (w : World)
    (hr : Kd.C k64 w A l.length l) (hc : l.length ≤ c) (hp : ∀ (W : World) (x : S64), Below w.heap.size w W → Calls Try.prog g (#[.agg #[.string x.f0, .int .i64 x.f1, .bool x.f2]] ++ lb) W fun e w' => e = .returned (.bool (p x)) ∧ Below W.heap.size W w') :
    Calls Try.prog 66 #[.slice A l.length c, .func (.func g) #[] lb] w fun e w' => e = .returned (.bool (l.any p)) ∧ Below w.heap.size w w' := by
  have hcon := api_Col_91.at g lb eg p A c l w hr hc hp
  rw [← idxOf_any]
  clear hr hp eg
  generalize idxOf p l = r at hcon ⊢
  go_enter Try.func66, Try.ntmps66
  go_wp2_with (go_at_call 91; refine hcon.mono ?_; rintro e w' ⟨rfl, hb'⟩)
  go_ret
  exact ⟨by first | rfl | (simp; done), hb'⟩
set_option maxHeartbeats 400000 in
theorem Df.closure (B : Nat) (y x : S64) (W : World) (hc : W.cell? ⟨B, 0, none⟩ = some (.string y.f0)) (hB : B < W.heap.size) :
    Calls Try.prog 67 #[.agg #[.string x.f0, .int .i64 x.f1, .bool x.f2], .pointer (some ⟨B, 0, none⟩)] W fun e w' => e = .returned (.bool (x.f0.toList == y.f0.toList)) ∧ Below W.heap.size W w' := by
 have hu := Try.underlying64
 have hne : B ≠ W.heap.size := by omega
 go_enter Try.func67, Try.ntmps67
 go_wp2
 go_ret
 exact ⟨by first | rfl | (simp; done), (Below.refl _ W).alloc (Nat.le_refl _) _⟩
def colOk (seen : List (S64)) (x : S64) : Bool := !(seen.any (fun y => y.f0.toList == x.f0.toList)) && (nameB x.f0 && (decide (1 ≤ x.f1) && decide (x.f1 ≤ 3)))
def colsOk : List (S64) → List (S64) → Bool
  | _, [] => true
  | seen, x :: r => colOk seen x && colsOk (seen ++ [x]) r
def checkE (l : List (S64)) : Int := if l.length = 0 then 1 else if colsOk [] l then (if 6 < l.length then 4 else 0) else 1
def Df.f (l0 : List (S64)) : Option Int := some (checkE l0)
theorem nameC (s : ByteArray) (w : World) : Calls Try.prog 68 #[.string s] w fun e w' => e = .returned (.bool (nameB s)) ∧ Below w.heap.size w w' := Bt.calls s (nameB s) w rfl
set_option maxHeartbeats 2000000 in
theorem Df.calls (A0 : Option Addr) (c0 : Nat) (l0 : List (S64)) (r : Int) (w : World) (hr0 : Kd.C k64 w A0 l0.length l0) (hc0 : l0.length ≤ c0) (h : Df.f l0 = some r) :
    Calls Try.prog 44 #[.slice A0 l0.length c0] w fun e w' => e = .returned (.int .i64 r) ∧ Below w.heap.size w w' := by
 simp only [Df.f, Option.some.injEq] at h
 have hm := Kd.C_max hr0
 by_cases hz : l0.length = 0
 ·(
 have hv : r = 1 := by rw [← h]; simp [checkE, hz]
 subst hv
 clear h
 have hz1 : ((l0.length : Int) == 0) = true := by simp [hz]
 have hz2 : l0 = [] := List.eq_nil_of_length_eq_zero hz
 subst hz2
 go_enter Try.func44, Try.ntmps44
 go_wp2
 go_ret
 exact ⟨rfl, Below.refl _ _⟩)
 ·(
 have hv : (if colsOk [] l0 then (if 6 < l0.length then (4 : Int) else 0) else 1) = r := by rw [← h]; simp [checkE, hz]
 have HF : Aa (colsOk [] l0 = false → r = 1) := ⟨fun e => by rw [← hv, e]; rfl⟩
 have HG : Aa (colsOk [] l0 = true → r = if 6 < l0.length then (4 : Int) else 0) := ⟨fun e => by rw [← hv, e]; rfl⟩
 clear hv h
 have eg : ∀ args w, (callFunc 67 args).run Try.prog w = .ok (.enter 67 args) w := enters_of Try.func67 (by kernel_rfl) rfl
 have hu := Try.underlying64
 obtain ⟨ad, rfl⟩ : ∃ ad, A0 = some ad := by(
 obtain ⟨ad, _, e, _⟩ := Kd.C_get hr0 z64 0 (by omega) (by omega)
 exact ⟨ad, e⟩)
 have HR := Aa.mk hr0
 clear hr0
 have hz1 : ((l0.length : Int) == 0) = false := by simpa using hz
 have hz2 : l0 ≠ [] := by intro h; rw [h] at hz; simp at hz
 go_enter Try.func44, Try.ntmps44
 go_wp2
 go_loopg [11] l0.length (fun gk v11 wr => ∃ kk : Nat, kk ≤ l0.length ∧ l0.length - kk ≤ gk ∧ v11 = .int .i64 kk ∧ Aa (Below w.heap.size w wr) ∧ Aa (colsOk (l0.take kk) (l0.drop kk) = colsOk [] l0))
 case atStart => exact ⟨0, Nat.zero_le _, by omega, rfl, ⟨Below.refl _ w⟩, ⟨by simp⟩⟩
 case round =>(
 obtain ⟨kk, hkk, hg, rfl, BW, HA⟩ := hrel
 by_cases hlt : kk < l0.length
 ·(
 have hltz : (kk : Int) < (l0.length : Int) := by omega
 obtain ⟨ad', e, h0, h1, h2⟩ := at_T64 (Kd.C_below HR.out BW.out) (kk : Int) (by omega) (by omega)
 injection e with e
 subst e
 simp only [Int.toNat_natCast] at h0 h1 h2
 have hx : l0.drop kk = Bj l0 kk :: l0.drop (kk + 1) := by(
 rw [List.drop_eq_getElem_cons hlt]
 simp [Bj, List.getElem?_eq_getElem hlt, List.getD_eq_getElem?_getD])
 have ht : l0.take (kk + 1) = l0.take kk ++ [Bj l0 kk] := by(
 rw [List.take_succ_eq_append_getElem hlt]
 simp [Bj, List.getElem?_eq_getElem hlt, List.getD_eq_getElem?_getD])
 have hA := HA.out
 rw [hx, colsOk, ← ht] at hA
 have hlen : (l0.take kk).length = kk := by rw [List.length_take]; omega
 have hkc : kk ≤ c0 := by omega
 generalize Bj l0 kk = y at h0 h1 h2 hA
 have hcon := fun (W : World) (hW : Below w.heap.size w W) (B : Nat) (hB : B < W.heap.size) (hcell : W.cell? ⟨B, 0, none⟩ = some (.string y.f0)) =>(
 api_Col_66.at 67 #[.pointer (some ⟨B, 0, none⟩)] eg (fun x => x.f0.toList == y.f0.toList) (some ad) c0 (l0.take kk) W
  (by have := Kd.C_take (Kd.C_below HR.out hW) (m := kk) (by omega); exact this) (by rw [hlen]; exact hkc)
  (fun W' x hb => Df.closure B y x W' ((hb.cell (p := ⟨B, 0, none⟩) hB).trans hcell) (Nat.lt_of_lt_of_le hB hb.size)))
 simp only [hlen] at hcon
 have HT := Aa.mk ht
 have HX := Aa.mk hx
 clear ht hx HA hlen
 have hok : colOk (l0.take kk) y = (!((l0.take kk).any (fun z => z.f0.toList == y.f0.toList)) && (nameB y.f0 && (decide (1 ≤ y.f1) && decide (y.f1 ≤ 3)))) := rfl
 rw [hok] at hA
 have HH := Aa.mk hA
 clear hA hok
 generalize (l0.take kk).any (fun z => z.f0.toList == y.f0.toList) = tw at hcon HH
 have hcon := hcon (wr.alloc (.cells #[.string y.f0, .int .i64 y.f1, .bool y.f2] 64)) (Ak BW.out _) wr.heap.size (by simp) (by simp)
 go_wp2_with fail
 refine hcon.mono ?_
 rintro e w' ⟨rfl, hb'⟩
 have hcn := nameC y.f0
 clear hcon
 have hcell0 : w'.cell? ⟨wr.heap.size, 0, none⟩ = some (.string y.f0) := (hb'.cell (p := ⟨wr.heap.size, 0, none⟩) (by simp)).trans (by simp)
 have hcell1 : w'.cell? ⟨wr.heap.size, 1, none⟩ = some (.int .i64 y.f1) := (hb'.cell (p := ⟨wr.heap.size, 1, none⟩) (by simp)).trans (by simp)
 have BW' := Aa.mk (Cp (Ak BW.out (.cells #[.string y.f0, .int .i64 y.f1, .bool y.f2] 64)) hb')
 have hbl : wr.heap.size < w'.heap.size := by have := hb'.size; simp at this; omega
 clear hb'
 cases tw with
 | true =>(
 obtain rfl := HF.out (by rw [← HH.out]; simp)
 go_wp2
 go_ret
 exact ⟨rfl, BW'.out⟩)
 | false =>(
 have hcn := hcn w'
 cases hnb : nameB y.f0 with
 | false =>(
 rw [hnb] at hcn
 obtain rfl := HF.out (by rw [← HH.out, hnb]; simp)
 clear hnb HH
 go_wp2_with fail
 refine hcn.mono ?_
 rintro e w'' ⟨rfl, hb''⟩
 go_wp2
 go_ret
 exact ⟨rfl, Cp BW'.out hb''⟩)
 | true =>(
 rw [hnb] at hcn
 have HH' := HH.out
 rw [hnb] at HH'
 simp only [Bool.not_false, Bool.true_and] at HH'
 have HH := Aa.mk HH'
 clear HH' hnb
 go_wp2_with fail
 refine hcn.mono ?_
 rintro e w'' ⟨rfl, hb''⟩
 have hcell2 : w''.cell? ⟨wr.heap.size, 1, none⟩ = some (.int .i64 y.f1) := (hb''.cell (p := ⟨wr.heap.size, 1, none⟩) hbl).trans hcell1
 have BW'' := Aa.mk (Cp BW'.out hb'')
 clear hb'' hcell0 hcell1
 by_cases q1 : 1 ≤ y.f1
 ·(
 by_cases q3 : y.f1 ≤ 3
 ·(
 have HH2 := HH.out
 simp only [q1, q3, decide_true, Bool.true_and] at HH2
 have HH := Aa.mk HH2
 clear HH2
 go_wp2
 go_roundg (l0.length - (kk + 1))
 case measure => omega
 case rel => exact ⟨kk + 1, by omega, Nat.le_refl _, by go_num, BW'', HH⟩)
 ·(
 obtain rfl := HF.out (by rw [← HH.out]; simp [q3])
 have q3' : 3 < y.f1 := by omega
 clear HH
 go_wp2
 go_ret
 exact ⟨rfl, BW''.out⟩))
 ·(
 obtain rfl := HF.out (by rw [← HH.out]; simp [q1])
 have q1' : y.f1 < 1 := by omega
 clear HH
 go_wp2
 go_ret
 exact ⟨rfl, BW''.out⟩))))
 ·(
 have hltz : ¬ (kk : Int) < (l0.length : Int) := by omega
 have hkl : kk = l0.length := by omega
 subst hkl
 have hr := HG.out (by rw [← HA.out, List.drop_length, colsOk])
 clear HF HG
 by_cases h6 : 6 < l0.length
 ·(
 have h6' : (6 : Int) < l0.length := by omega
 rw [if_pos h6] at hr
 subst hr
 go_wp2
 go_ret
 exact ⟨rfl, BW.out⟩)
 ·(
 have h6' : ¬ (6 : Int) < l0.length := by omega
 rw [if_neg h6] at hr
 subst hr
 go_wp2
 go_ret
 exact ⟨rfl, BW.out⟩))))
set_option maxHeartbeats 400000 in
theorem Bw.closure (B : Nat) (s : ByteArray) (x : S64) (W : World) (hc : W.cell? ⟨B, 0, none⟩ = some (.string s)) (hB : B < W.heap.size) :
    Calls Try.prog 93 #[.agg #[.string x.f0, .int .i64 x.f1, .bool x.f2], .pointer (some ⟨B, 0, none⟩)] W fun e w' => e = .returned (.bool (x.f0.toList == s.toList)) ∧ Below W.heap.size W w' := by
 have hu := Try.underlying64
 have hne : B ≠ W.heap.size := by omega
 go_enter Try.func93, Try.ntmps93
 go_wp2
 go_ret
 exact ⟨by first | rfl | (simp; done), (Below.refl _ W).alloc (Nat.le_refl _) _⟩
def Bw.f (l0 : List (S64)) (a1 : ByteArray) : Option (Int × Bool) :=
  some (mx (idxOf (fun x : S64 => x.f0.toList == a1.toList) l0) 0, decide (0 ≤ idxOf (fun x : S64 => x.f0.toList == a1.toList) l0))
set_option maxHeartbeats 1000000 in
theorem Bw.calls (A0 : Option Addr) (c0 : Nat) (l0 : List (S64)) (a1 : ByteArray) (r1 : Int) (r2 : Bool) (w : World) (hr0 : Kd.C k64 w A0 l0.length l0) (hc0 : l0.length ≤ c0) (h : Bw.f l0 a1 = some (r1, r2)) :
    Calls Try.prog 69 #[.slice A0 l0.length c0, .string a1] w fun e w' => e = .returned (.tuple #[.int .i64 r1, .bool r2]) ∧ Below w.heap.size w w' := by
 have eg : ∀ args w, (callFunc 93 args).run Try.prog w = .ok (.enter 93 args) w := enters_of Try.func93 (by kernel_rfl) rfl
 have hcon := api_Col_91.at 93 #[.pointer (some ⟨w.heap.size, 0, none⟩)] eg (fun x : S64 => x.f0.toList == a1.toList) A0 c0 l0 (w.alloc (.cells #[.string a1] 9))
  (Kd.C_alloc hr0 _) hc0 (fun W x hb => Bw.closure w.heap.size a1 x W ((hb.cell (p := ⟨w.heap.size, 0, none⟩) (by simp)).trans (by simp)) (by have := hb.size; simp at this; omega))
 have H := Aa.mk h
 clear h hr0
 simp only [Bw.f] at H
 generalize idxOf (fun x : S64 => x.f0.toList == a1.toList) l0 = r at hcon H
 go_enter Try.func69, Try.ntmps69
 go_wp2_with (go_at_call 91; refine hcon.mono ?_; rintro e w' ⟨rfl, hb'⟩)
 all_goals(
 have hh := H.out
 simp only [Option.some.injEq, Prod.mk.injEq] at hh
 obtain ⟨rfl, rfl⟩ := hh
 go_ret2
 exact ⟨by first | rfl | (simp [mx]; done) | (simp [mx]; omega), ((Below.refl _ w).alloc (Nat.le_refl _) _).trans (hb'.mono (by simp))⟩)
def Dc.f (l0 : List (S64)) (a1_0 : Int) (a1_1 : ByteArray) (a1_2 : Int) (a1_3 : Bool) (a1_4 : Int) (a1_5 : ByteArray) (a1_6 : Int) (a1_7 : ByteArray) (l1_8 : List (S27)) : Option (Bool) := if a1_1.toList = ([] : List UInt8) then (some true) else ((Bw.f l0 a1_1).bind fun bt127 => (if bt127.2 = true then (if a1_0 = 2 then (if 0 ≤ bt127.1 then (if bt127.1 < (l0.length : Int) then (some (((Bj l0 bt127.1).f1) == a1_6)) else (none)) else (none)) else (if a1_0 = 4 then (if 0 ≤ bt127.1 then (if bt127.1 < (l0.length : Int) then (some (((Bj l0 bt127.1).f1) == 3)) else (none)) else (none)) else (some true))) else (some false)))
theorem Dc.calls (A0 : Option Addr) (c0 : Nat) (l0 : List (S64)) (a1_0 : Int) (a1_1 : ByteArray) (a1_2 : Int) (a1_3 : Bool) (a1_4 : Int) (a1_5 : ByteArray) (a1_6 : Int) (a1_7 : ByteArray) (A1_8 : Option Addr) (c1_8 : Nat) (l1_8 : List (S27)) (r : Bool) (w : World) (hr0 : Kd.C k64 w A0 l0.length l0) (hc0 : l0.length ≤ c0) (hr1_8 : Kd.C k27 w A1_8 l1_8.length l1_8) (hc1_8 : l1_8.length ≤ c1_8) (h : Dc.f l0 a1_0 a1_1 a1_2 a1_3 a1_4 a1_5 a1_6 a1_7 l1_8 = some r) :
  Calls Try.prog 47 #[.slice A0 l0.length c0, .agg #[.int .i64 a1_0, .string a1_1, .int .i64 a1_2, .bool a1_3, .int .i64 a1_4, .string a1_5, .int .i64 a1_6, .string a1_7, .slice A1_8 l1_8.length c1_8]] w fun e w' => e = .returned (.bool r) ∧ Below w.heap.size w w' := by
 have hu27 := Try.underlying27
 have HR0 := Aa.mk hr0
 have HC0 := Aa.mk hc0
 clear hr0 hc0
 have HR1_8 := Aa.mk hr1_8
 have HC1_8 := Aa.mk hc1_8
 clear hr1_8 hc1_8
 have HB := Aa.mk (Below.refl w.heap.size w)
 have H : (if a1_1.toList = ([] : List UInt8) then (some true) else ((Bw.f l0 a1_1).bind fun bt127 => (if bt127.2 = true then (if a1_0 = 2 then (if 0 ≤ bt127.1 then (if bt127.1 < (l0.length : Int) then (some (((Bj l0 bt127.1).f1) == a1_6)) else (none)) else (none)) else (if a1_0 = 4 then (if 0 ≤ bt127.1 then (if bt127.1 < (l0.length : Int) then (some (((Bj l0 bt127.1).f1) == 3)) else (none)) else (none)) else (some true))) else (some false)))) = some r := h
 clear h
 by_cases c3 : a1_1.toList = ([] : List UInt8)
 ·(
 rw [if_pos c3] at H
 have c3b0 : a1_1.toList.isEmpty = true := by simpa using c3
 have c3b1 : (a1_1.toList == ([] : List UInt8)) = true := Dl c3
 have c3b2 : (a1_1.toList != ([] : List UInt8)) = false := Dk c3
 have c3b3 : (a1_1.toList = ([] : List UInt8)) := c3
 clear c3
 obtain rfl := Dp H
 go_enter Try.func47, Try.ntmps47
 go_wp2_with (first | (refine bx_ (N := 3) (cs := #[.int .i64 a1_0, .string a1_1, .int .i64 a1_2, .bool a1_3, .int .i64 a1_4, .string a1_5, .int .i64 a1_6, .string a1_7, .slice A1_8 l1_8.length c1_8]) (t := 27) ?_; intro gb126 hg w4 hbox hb; have BK126 := Aa.mk (hbox); have GW126 := ge_ HB hg; have GE126 := ge_ HB hg; replace HB := bs_ HB hb; clear hb hbox hg; obtain ⟨C5_0, C5_1, C5_2, C5_3, C5_4, C5_5, C5_6, C5_7, C5_8⟩ := zc9_ BK126.out; obtain ⟨F5_0, F5_1, F5_2, F5_3, F5_4, F5_5, F5_6, F5_7, F5_8⟩ := zf9_ BK126.out))
 repeat (go_quiet (first | (refine bx_ (N := 3) (cs := #[.int .i64 a1_0, .string a1_1, .int .i64 a1_2, .bool a1_3, .int .i64 a1_4, .string a1_5, .int .i64 a1_6, .string a1_7, .slice A1_8 l1_8.length c1_8]) (t := 27) ?_; intro gb126 hg w4 hbox hb; have BK126 := Aa.mk (hbox); have GW126 := ge_ HB hg; have GE126 := ge_ HB hg; replace HB := bs_ HB hb; clear hb hbox hg; obtain ⟨C5_0, C5_1, C5_2, C5_3, C5_4, C5_5, C5_6, C5_7, C5_8⟩ := zc9_ BK126.out; obtain ⟨F5_0, F5_1, F5_2, F5_3, F5_4, F5_5, F5_6, F5_7, F5_8⟩ := zf9_ BK126.out)); try go_wp2_with (first | (refine bx_ (N := 3) (cs := #[.int .i64 a1_0, .string a1_1, .int .i64 a1_2, .bool a1_3, .int .i64 a1_4, .string a1_5, .int .i64 a1_6, .string a1_7, .slice A1_8 l1_8.length c1_8]) (t := 27) ?_; intro gb126 hg w4 hbox hb; have BK126 := Aa.mk (hbox); have GW126 := ge_ HB hg; have GE126 := ge_ HB hg; replace HB := bs_ HB hb; clear hb hbox hg; obtain ⟨C5_0, C5_1, C5_2, C5_3, C5_4, C5_5, C5_6, C5_7, C5_8⟩ := zc9_ BK126.out; obtain ⟨F5_0, F5_1, F5_2, F5_3, F5_4, F5_5, F5_6, F5_7, F5_8⟩ := zf9_ BK126.out)))
 go_ret
 exact en_ HB)
 ·(
 rw [if_neg c3] at H
 have c3b0 : a1_1.toList.isEmpty = false := by simpa using c3
 have c3b1 : (a1_1.toList == ([] : List UInt8)) = false := Dj c3
 have c3b2 : (a1_1.toList != ([] : List UInt8)) = true := Dm c3
 have c3b3 : ¬ (a1_1.toList = ([] : List UInt8)) := c3
 replace H := Dn H
 obtain ⟨⟨t127, t128⟩, A60, H⟩ := H
 replace H : (if t128 = true then (if a1_0 = 2 then (if 0 ≤ t127 then (if t127 < (l0.length : Int) then (some (((Bj l0 t127).f1) == a1_6)) else (none)) else (none)) else (if a1_0 = 4 then (if 0 ≤ t127 then (if t127 < (l0.length : Int) then (some (((Bj l0 t127).f1) == 3)) else (none)) else (none)) else (some true))) else (some false)) = some r := H
 have A6 := Aa.mk A60
 clear A60
 by_cases c7 : t128 = true
 ·(
 subst c7
 have H1 : (if a1_0 = 2 then (if 0 ≤ t127 then (if t127 < (l0.length : Int) then (some (((Bj l0 t127).f1) == a1_6)) else (none)) else (none)) else (if a1_0 = 4 then (if 0 ≤ t127 then (if t127 < (l0.length : Int) then (some (((Bj l0 t127).f1) == 3)) else (none)) else (none)) else (some true))) = some r := by rw [if_pos rfl] at H; exact H
 clear H
 have H := H1
 clear H1
 by_cases c8 : a1_0 = 2
 ·(
 rw [if_pos c8] at H
 have c8b0 : (a1_0 == 2) = true := Dl c8
 have c8b1 : (a1_0 != 2) = false := Dk c8
 clear c8
 by_cases c9 : 0 ≤ t127
 ·(
 rw [if_pos c9] at H
 have c9b0 : decide (0 ≤ t127) = true := decide_eq_true c9
 clear c9
 by_cases c10 : t127 < (l0.length : Int)
 ·(
 rw [if_pos c10] at H
 have c10b0 : decide (t127 < (l0.length : Int)) = true := decide_eq_true c10
 clear c10
 obtain rfl := Dp H
 go_enter Try.func47, Try.ntmps47
 go_wp2_with (first | (refine bx_ (N := 3) (cs := #[.int .i64 a1_0, .string a1_1, .int .i64 a1_2, .bool a1_3, .int .i64 a1_4, .string a1_5, .int .i64 a1_6, .string a1_7, .slice A1_8 l1_8.length c1_8]) (t := 27) ?_; intro gb126 hg w11 hbox hb; have BK126 := Aa.mk (hbox); have GW126 := ge_ HB hg; have GE126 := ge_ HB hg; replace HB := bs_ HB hb; clear hb hbox hg; obtain ⟨C12_0, C12_1, C12_2, C12_3, C12_4, C12_5, C12_6, C12_7, C12_8⟩ := zc9_ BK126.out; obtain ⟨F12_0, F12_1, F12_2, F12_3, F12_4, F12_5, F12_6, F12_7, F12_8⟩ := zf9_ BK126.out) | (go_at_call 69; (with_reducible refine (Bw.calls _ _ l0 a1_1 t127 true _ ?side1 ?side2 A6.out).mono ?_); (case side1 => repeat (first | exact (Kd.C_below HR0.out HB.out) | (with_reducible refine Kd.C_alloc ?_ _) | (with_reducible refine Kd.C_drewN ?_ _) | (with_reducible refine Kd.C_drew ?_))); (case side2 => exact HC0.out); rintro e w13 ⟨rfl, hb⟩;  replace BK126 := bk_ BK126 hb; replace HB := bs_ HB hb; (try clear hb); obtain ⟨C14_0, C14_1, C14_2, C14_3, C14_4, C14_5, C14_6, C14_7, C14_8⟩ := zc9_ BK126.out; obtain ⟨F14_0, F14_1, F14_2, F14_3, F14_4, F14_5, F14_6, F14_7, F14_8⟩ := zf9_ BK126.out; have p129 : 0 ≤ (t127 : Int) := dt_; have q129 : t127 < (l0.length : Int) := dt_; obtain ⟨ad129, e129, hx129_0, hx129_1, hx129_2⟩ := at_T64 HR0.out t127 p129 q129; cases e129; replace hx129_0 := hc_ HB hx129_0; replace hx129_1 := hc_ HB hx129_1; replace hx129_2 := hc_ HB hx129_2; replace p129 := eq_true p129; replace q129 := eq_true q129))
 repeat (go_quiet (first | (refine bx_ (N := 3) (cs := #[.int .i64 a1_0, .string a1_1, .int .i64 a1_2, .bool a1_3, .int .i64 a1_4, .string a1_5, .int .i64 a1_6, .string a1_7, .slice A1_8 l1_8.length c1_8]) (t := 27) ?_; intro gb126 hg w11 hbox hb; have BK126 := Aa.mk (hbox); have GW126 := ge_ HB hg; have GE126 := ge_ HB hg; replace HB := bs_ HB hb; clear hb hbox hg; obtain ⟨C12_0, C12_1, C12_2, C12_3, C12_4, C12_5, C12_6, C12_7, C12_8⟩ := zc9_ BK126.out; obtain ⟨F12_0, F12_1, F12_2, F12_3, F12_4, F12_5, F12_6, F12_7, F12_8⟩ := zf9_ BK126.out) | (go_at_call 69; (with_reducible refine (Bw.calls _ _ l0 a1_1 t127 true _ ?side1 ?side2 A6.out).mono ?_); (case side1 => repeat (first | exact (Kd.C_below HR0.out HB.out) | (with_reducible refine Kd.C_alloc ?_ _) | (with_reducible refine Kd.C_drewN ?_ _) | (with_reducible refine Kd.C_drew ?_))); (case side2 => exact HC0.out); rintro e w13 ⟨rfl, hb⟩;  replace BK126 := bk_ BK126 hb; replace HB := bs_ HB hb; (try clear hb); obtain ⟨C14_0, C14_1, C14_2, C14_3, C14_4, C14_5, C14_6, C14_7, C14_8⟩ := zc9_ BK126.out; obtain ⟨F14_0, F14_1, F14_2, F14_3, F14_4, F14_5, F14_6, F14_7, F14_8⟩ := zf9_ BK126.out; have p129 : 0 ≤ (t127 : Int) := dt_; have q129 : t127 < (l0.length : Int) := dt_; obtain ⟨ad129, e129, hx129_0, hx129_1, hx129_2⟩ := at_T64 HR0.out t127 p129 q129; cases e129; replace hx129_0 := hc_ HB hx129_0; replace hx129_1 := hc_ HB hx129_1; replace hx129_2 := hc_ HB hx129_2; replace p129 := eq_true p129; replace q129 := eq_true q129)); try go_wp2_with (first | (refine bx_ (N := 3) (cs := #[.int .i64 a1_0, .string a1_1, .int .i64 a1_2, .bool a1_3, .int .i64 a1_4, .string a1_5, .int .i64 a1_6, .string a1_7, .slice A1_8 l1_8.length c1_8]) (t := 27) ?_; intro gb126 hg w11 hbox hb; have BK126 := Aa.mk (hbox); have GW126 := ge_ HB hg; have GE126 := ge_ HB hg; replace HB := bs_ HB hb; clear hb hbox hg; obtain ⟨C12_0, C12_1, C12_2, C12_3, C12_4, C12_5, C12_6, C12_7, C12_8⟩ := zc9_ BK126.out; obtain ⟨F12_0, F12_1, F12_2, F12_3, F12_4, F12_5, F12_6, F12_7, F12_8⟩ := zf9_ BK126.out) | (go_at_call 69; (with_reducible refine (Bw.calls _ _ l0 a1_1 t127 true _ ?side1 ?side2 A6.out).mono ?_); (case side1 => repeat (first | exact (Kd.C_below HR0.out HB.out) | (with_reducible refine Kd.C_alloc ?_ _) | (with_reducible refine Kd.C_drewN ?_ _) | (with_reducible refine Kd.C_drew ?_))); (case side2 => exact HC0.out); rintro e w13 ⟨rfl, hb⟩;  replace BK126 := bk_ BK126 hb; replace HB := bs_ HB hb; (try clear hb); obtain ⟨C14_0, C14_1, C14_2, C14_3, C14_4, C14_5, C14_6, C14_7, C14_8⟩ := zc9_ BK126.out; obtain ⟨F14_0, F14_1, F14_2, F14_3, F14_4, F14_5, F14_6, F14_7, F14_8⟩ := zf9_ BK126.out; have p129 : 0 ≤ (t127 : Int) := dt_; have q129 : t127 < (l0.length : Int) := dt_; obtain ⟨ad129, e129, hx129_0, hx129_1, hx129_2⟩ := at_T64 HR0.out t127 p129 q129; cases e129; replace hx129_0 := hc_ HB hx129_0; replace hx129_1 := hc_ HB hx129_1; replace hx129_2 := hc_ HB hx129_2; replace p129 := eq_true p129; replace q129 := eq_true q129)))
 go_ret
 exact en_ HB)
 ·(
 rw [if_neg c10] at H
 exact absurd H (by simp)))
 ·(
 rw [if_neg c9] at H
 exact absurd H (by simp)))
 ·(
 rw [if_neg c8] at H
 have c8b0 : (a1_0 == 2) = false := Dj c8
 have c8b1 : (a1_0 != 2) = true := Dm c8
 by_cases c15 : a1_0 = 4
 ·(
 rw [if_pos c15] at H
 have c15b0 : (a1_0 == 4) = true := Dl c15
 have c15b1 : (a1_0 != 4) = false := Dk c15
 clear c15
 by_cases c16 : 0 ≤ t127
 ·(
 rw [if_pos c16] at H
 have c16b0 : decide (0 ≤ t127) = true := decide_eq_true c16
 clear c16
 by_cases c17 : t127 < (l0.length : Int)
 ·(
 rw [if_pos c17] at H
 have c17b0 : decide (t127 < (l0.length : Int)) = true := decide_eq_true c17
 clear c17
 obtain rfl := Dp H
 go_enter Try.func47, Try.ntmps47
 go_wp2_with (first | (refine bx_ (N := 3) (cs := #[.int .i64 a1_0, .string a1_1, .int .i64 a1_2, .bool a1_3, .int .i64 a1_4, .string a1_5, .int .i64 a1_6, .string a1_7, .slice A1_8 l1_8.length c1_8]) (t := 27) ?_; intro gb126 hg w18 hbox hb; have BK126 := Aa.mk (hbox); have GW126 := ge_ HB hg; have GE126 := ge_ HB hg; replace HB := bs_ HB hb; clear hb hbox hg; obtain ⟨C19_0, C19_1, C19_2, C19_3, C19_4, C19_5, C19_6, C19_7, C19_8⟩ := zc9_ BK126.out; obtain ⟨F19_0, F19_1, F19_2, F19_3, F19_4, F19_5, F19_6, F19_7, F19_8⟩ := zf9_ BK126.out) | (go_at_call 69; (with_reducible refine (Bw.calls _ _ l0 a1_1 t127 true _ ?side1 ?side2 A6.out).mono ?_); (case side1 => repeat (first | exact (Kd.C_below HR0.out HB.out) | (with_reducible refine Kd.C_alloc ?_ _) | (with_reducible refine Kd.C_drewN ?_ _) | (with_reducible refine Kd.C_drew ?_))); (case side2 => exact HC0.out); rintro e w20 ⟨rfl, hb⟩;  replace BK126 := bk_ BK126 hb; replace HB := bs_ HB hb; (try clear hb); obtain ⟨C21_0, C21_1, C21_2, C21_3, C21_4, C21_5, C21_6, C21_7, C21_8⟩ := zc9_ BK126.out; obtain ⟨F21_0, F21_1, F21_2, F21_3, F21_4, F21_5, F21_6, F21_7, F21_8⟩ := zf9_ BK126.out; have p130 : 0 ≤ (t127 : Int) := dt_; have q130 : t127 < (l0.length : Int) := dt_; obtain ⟨ad130, e130, hx130_0, hx130_1, hx130_2⟩ := at_T64 HR0.out t127 p130 q130; cases e130; replace hx130_0 := hc_ HB hx130_0; replace hx130_1 := hc_ HB hx130_1; replace hx130_2 := hc_ HB hx130_2; replace p130 := eq_true p130; replace q130 := eq_true q130))
 repeat (go_quiet (first | (refine bx_ (N := 3) (cs := #[.int .i64 a1_0, .string a1_1, .int .i64 a1_2, .bool a1_3, .int .i64 a1_4, .string a1_5, .int .i64 a1_6, .string a1_7, .slice A1_8 l1_8.length c1_8]) (t := 27) ?_; intro gb126 hg w18 hbox hb; have BK126 := Aa.mk (hbox); have GW126 := ge_ HB hg; have GE126 := ge_ HB hg; replace HB := bs_ HB hb; clear hb hbox hg; obtain ⟨C19_0, C19_1, C19_2, C19_3, C19_4, C19_5, C19_6, C19_7, C19_8⟩ := zc9_ BK126.out; obtain ⟨F19_0, F19_1, F19_2, F19_3, F19_4, F19_5, F19_6, F19_7, F19_8⟩ := zf9_ BK126.out) | (go_at_call 69; (with_reducible refine (Bw.calls _ _ l0 a1_1 t127 true _ ?side1 ?side2 A6.out).mono ?_); (case side1 => repeat (first | exact (Kd.C_below HR0.out HB.out) | (with_reducible refine Kd.C_alloc ?_ _) | (with_reducible refine Kd.C_drewN ?_ _) | (with_reducible refine Kd.C_drew ?_))); (case side2 => exact HC0.out); rintro e w20 ⟨rfl, hb⟩;  replace BK126 := bk_ BK126 hb; replace HB := bs_ HB hb; (try clear hb); obtain ⟨C21_0, C21_1, C21_2, C21_3, C21_4, C21_5, C21_6, C21_7, C21_8⟩ := zc9_ BK126.out; obtain ⟨F21_0, F21_1, F21_2, F21_3, F21_4, F21_5, F21_6, F21_7, F21_8⟩ := zf9_ BK126.out; have p130 : 0 ≤ (t127 : Int) := dt_; have q130 : t127 < (l0.length : Int) := dt_; obtain ⟨ad130, e130, hx130_0, hx130_1, hx130_2⟩ := at_T64 HR0.out t127 p130 q130; cases e130; replace hx130_0 := hc_ HB hx130_0; replace hx130_1 := hc_ HB hx130_1; replace hx130_2 := hc_ HB hx130_2; replace p130 := eq_true p130; replace q130 := eq_true q130)); try go_wp2_with (first | (refine bx_ (N := 3) (cs := #[.int .i64 a1_0, .string a1_1, .int .i64 a1_2, .bool a1_3, .int .i64 a1_4, .string a1_5, .int .i64 a1_6, .string a1_7, .slice A1_8 l1_8.length c1_8]) (t := 27) ?_; intro gb126 hg w18 hbox hb; have BK126 := Aa.mk (hbox); have GW126 := ge_ HB hg; have GE126 := ge_ HB hg; replace HB := bs_ HB hb; clear hb hbox hg; obtain ⟨C19_0, C19_1, C19_2, C19_3, C19_4, C19_5, C19_6, C19_7, C19_8⟩ := zc9_ BK126.out; obtain ⟨F19_0, F19_1, F19_2, F19_3, F19_4, F19_5, F19_6, F19_7, F19_8⟩ := zf9_ BK126.out) | (go_at_call 69; (with_reducible refine (Bw.calls _ _ l0 a1_1 t127 true _ ?side1 ?side2 A6.out).mono ?_); (case side1 => repeat (first | exact (Kd.C_below HR0.out HB.out) | (with_reducible refine Kd.C_alloc ?_ _) | (with_reducible refine Kd.C_drewN ?_ _) | (with_reducible refine Kd.C_drew ?_))); (case side2 => exact HC0.out); rintro e w20 ⟨rfl, hb⟩;  replace BK126 := bk_ BK126 hb; replace HB := bs_ HB hb; (try clear hb); obtain ⟨C21_0, C21_1, C21_2, C21_3, C21_4, C21_5, C21_6, C21_7, C21_8⟩ := zc9_ BK126.out; obtain ⟨F21_0, F21_1, F21_2, F21_3, F21_4, F21_5, F21_6, F21_7, F21_8⟩ := zf9_ BK126.out; have p130 : 0 ≤ (t127 : Int) := dt_; have q130 : t127 < (l0.length : Int) := dt_; obtain ⟨ad130, e130, hx130_0, hx130_1, hx130_2⟩ := at_T64 HR0.out t127 p130 q130; cases e130; replace hx130_0 := hc_ HB hx130_0; replace hx130_1 := hc_ HB hx130_1; replace hx130_2 := hc_ HB hx130_2; replace p130 := eq_true p130; replace q130 := eq_true q130)))
 go_ret
 exact en_ HB)
 ·(
 rw [if_neg c17] at H
 exact absurd H (by simp)))
 ·(
 rw [if_neg c16] at H
 exact absurd H (by simp)))
 ·(
 rw [if_neg c15] at H
 have c15b0 : (a1_0 == 4) = false := Dj c15
 have c15b1 : (a1_0 != 4) = true := Dm c15
 obtain rfl := Dp H
 go_enter Try.func47, Try.ntmps47
 go_wp2_with (first | (refine bx_ (N := 3) (cs := #[.int .i64 a1_0, .string a1_1, .int .i64 a1_2, .bool a1_3, .int .i64 a1_4, .string a1_5, .int .i64 a1_6, .string a1_7, .slice A1_8 l1_8.length c1_8]) (t := 27) ?_; intro gb126 hg w22 hbox hb; have BK126 := Aa.mk (hbox); have GW126 := ge_ HB hg; have GE126 := ge_ HB hg; replace HB := bs_ HB hb; clear hb hbox hg; obtain ⟨C23_0, C23_1, C23_2, C23_3, C23_4, C23_5, C23_6, C23_7, C23_8⟩ := zc9_ BK126.out; obtain ⟨F23_0, F23_1, F23_2, F23_3, F23_4, F23_5, F23_6, F23_7, F23_8⟩ := zf9_ BK126.out) | (go_at_call 69; (with_reducible refine (Bw.calls _ _ l0 a1_1 t127 true _ ?side1 ?side2 A6.out).mono ?_); (case side1 => repeat (first | exact (Kd.C_below HR0.out HB.out) | (with_reducible refine Kd.C_alloc ?_ _) | (with_reducible refine Kd.C_drewN ?_ _) | (with_reducible refine Kd.C_drew ?_))); (case side2 => exact HC0.out); rintro e w24 ⟨rfl, hb⟩;  replace BK126 := bk_ BK126 hb; replace HB := bs_ HB hb; (try clear hb); obtain ⟨C25_0, C25_1, C25_2, C25_3, C25_4, C25_5, C25_6, C25_7, C25_8⟩ := zc9_ BK126.out; obtain ⟨F25_0, F25_1, F25_2, F25_3, F25_4, F25_5, F25_6, F25_7, F25_8⟩ := zf9_ BK126.out))
 repeat (go_quiet (first | (refine bx_ (N := 3) (cs := #[.int .i64 a1_0, .string a1_1, .int .i64 a1_2, .bool a1_3, .int .i64 a1_4, .string a1_5, .int .i64 a1_6, .string a1_7, .slice A1_8 l1_8.length c1_8]) (t := 27) ?_; intro gb126 hg w22 hbox hb; have BK126 := Aa.mk (hbox); have GW126 := ge_ HB hg; have GE126 := ge_ HB hg; replace HB := bs_ HB hb; clear hb hbox hg; obtain ⟨C23_0, C23_1, C23_2, C23_3, C23_4, C23_5, C23_6, C23_7, C23_8⟩ := zc9_ BK126.out; obtain ⟨F23_0, F23_1, F23_2, F23_3, F23_4, F23_5, F23_6, F23_7, F23_8⟩ := zf9_ BK126.out) | (go_at_call 69; (with_reducible refine (Bw.calls _ _ l0 a1_1 t127 true _ ?side1 ?side2 A6.out).mono ?_); (case side1 => repeat (first | exact (Kd.C_below HR0.out HB.out) | (with_reducible refine Kd.C_alloc ?_ _) | (with_reducible refine Kd.C_drewN ?_ _) | (with_reducible refine Kd.C_drew ?_))); (case side2 => exact HC0.out); rintro e w24 ⟨rfl, hb⟩;  replace BK126 := bk_ BK126 hb; replace HB := bs_ HB hb; (try clear hb); obtain ⟨C25_0, C25_1, C25_2, C25_3, C25_4, C25_5, C25_6, C25_7, C25_8⟩ := zc9_ BK126.out; obtain ⟨F25_0, F25_1, F25_2, F25_3, F25_4, F25_5, F25_6, F25_7, F25_8⟩ := zf9_ BK126.out)); try go_wp2_with (first | (refine bx_ (N := 3) (cs := #[.int .i64 a1_0, .string a1_1, .int .i64 a1_2, .bool a1_3, .int .i64 a1_4, .string a1_5, .int .i64 a1_6, .string a1_7, .slice A1_8 l1_8.length c1_8]) (t := 27) ?_; intro gb126 hg w22 hbox hb; have BK126 := Aa.mk (hbox); have GW126 := ge_ HB hg; have GE126 := ge_ HB hg; replace HB := bs_ HB hb; clear hb hbox hg; obtain ⟨C23_0, C23_1, C23_2, C23_3, C23_4, C23_5, C23_6, C23_7, C23_8⟩ := zc9_ BK126.out; obtain ⟨F23_0, F23_1, F23_2, F23_3, F23_4, F23_5, F23_6, F23_7, F23_8⟩ := zf9_ BK126.out) | (go_at_call 69; (with_reducible refine (Bw.calls _ _ l0 a1_1 t127 true _ ?side1 ?side2 A6.out).mono ?_); (case side1 => repeat (first | exact (Kd.C_below HR0.out HB.out) | (with_reducible refine Kd.C_alloc ?_ _) | (with_reducible refine Kd.C_drewN ?_ _) | (with_reducible refine Kd.C_drew ?_))); (case side2 => exact HC0.out); rintro e w24 ⟨rfl, hb⟩;  replace BK126 := bk_ BK126 hb; replace HB := bs_ HB hb; (try clear hb); obtain ⟨C25_0, C25_1, C25_2, C25_3, C25_4, C25_5, C25_6, C25_7, C25_8⟩ := zc9_ BK126.out; obtain ⟨F25_0, F25_1, F25_2, F25_3, F25_4, F25_5, F25_6, F25_7, F25_8⟩ := zf9_ BK126.out)))
 go_ret
 exact en_ HB)))
 ·(
 replace c7 := Dq c7
 subst c7
 have H1 : (some false) = some r := by rw [if_neg (show ¬ (false = true) by decide)] at H; exact H
 clear H
 have H := H1
 clear H1
 obtain rfl := Dp H
 go_enter Try.func47, Try.ntmps47
 go_wp2_with (first | (refine bx_ (N := 3) (cs := #[.int .i64 a1_0, .string a1_1, .int .i64 a1_2, .bool a1_3, .int .i64 a1_4, .string a1_5, .int .i64 a1_6, .string a1_7, .slice A1_8 l1_8.length c1_8]) (t := 27) ?_; intro gb126 hg w26 hbox hb; have BK126 := Aa.mk (hbox); have GW126 := ge_ HB hg; have GE126 := ge_ HB hg; replace HB := bs_ HB hb; clear hb hbox hg; obtain ⟨C27_0, C27_1, C27_2, C27_3, C27_4, C27_5, C27_6, C27_7, C27_8⟩ := zc9_ BK126.out; obtain ⟨F27_0, F27_1, F27_2, F27_3, F27_4, F27_5, F27_6, F27_7, F27_8⟩ := zf9_ BK126.out) | (go_at_call 69; (with_reducible refine (Bw.calls _ _ l0 a1_1 t127 false _ ?side1 ?side2 A6.out).mono ?_); (case side1 => repeat (first | exact (Kd.C_below HR0.out HB.out) | (with_reducible refine Kd.C_alloc ?_ _) | (with_reducible refine Kd.C_drewN ?_ _) | (with_reducible refine Kd.C_drew ?_))); (case side2 => exact HC0.out); rintro e w28 ⟨rfl, hb⟩;  replace BK126 := bk_ BK126 hb; replace HB := bs_ HB hb; (try clear hb)))
 repeat (go_quiet (first | (refine bx_ (N := 3) (cs := #[.int .i64 a1_0, .string a1_1, .int .i64 a1_2, .bool a1_3, .int .i64 a1_4, .string a1_5, .int .i64 a1_6, .string a1_7, .slice A1_8 l1_8.length c1_8]) (t := 27) ?_; intro gb126 hg w26 hbox hb; have BK126 := Aa.mk (hbox); have GW126 := ge_ HB hg; have GE126 := ge_ HB hg; replace HB := bs_ HB hb; clear hb hbox hg; obtain ⟨C27_0, C27_1, C27_2, C27_3, C27_4, C27_5, C27_6, C27_7, C27_8⟩ := zc9_ BK126.out; obtain ⟨F27_0, F27_1, F27_2, F27_3, F27_4, F27_5, F27_6, F27_7, F27_8⟩ := zf9_ BK126.out) | (go_at_call 69; (with_reducible refine (Bw.calls _ _ l0 a1_1 t127 false _ ?side1 ?side2 A6.out).mono ?_); (case side1 => repeat (first | exact (Kd.C_below HR0.out HB.out) | (with_reducible refine Kd.C_alloc ?_ _) | (with_reducible refine Kd.C_drewN ?_ _) | (with_reducible refine Kd.C_drew ?_))); (case side2 => exact HC0.out); rintro e w28 ⟨rfl, hb⟩;  replace BK126 := bk_ BK126 hb; replace HB := bs_ HB hb; (try clear hb))); try go_wp2_with (first | (refine bx_ (N := 3) (cs := #[.int .i64 a1_0, .string a1_1, .int .i64 a1_2, .bool a1_3, .int .i64 a1_4, .string a1_5, .int .i64 a1_6, .string a1_7, .slice A1_8 l1_8.length c1_8]) (t := 27) ?_; intro gb126 hg w26 hbox hb; have BK126 := Aa.mk (hbox); have GW126 := ge_ HB hg; have GE126 := ge_ HB hg; replace HB := bs_ HB hb; clear hb hbox hg; obtain ⟨C27_0, C27_1, C27_2, C27_3, C27_4, C27_5, C27_6, C27_7, C27_8⟩ := zc9_ BK126.out; obtain ⟨F27_0, F27_1, F27_2, F27_3, F27_4, F27_5, F27_6, F27_7, F27_8⟩ := zf9_ BK126.out) | (go_at_call 69; (with_reducible refine (Bw.calls _ _ l0 a1_1 t127 false _ ?side1 ?side2 A6.out).mono ?_); (case side1 => repeat (first | exact (Kd.C_below HR0.out HB.out) | (with_reducible refine Kd.C_alloc ?_ _) | (with_reducible refine Kd.C_drewN ?_ _) | (with_reducible refine Kd.C_drew ?_))); (case side2 => exact HC0.out); rintro e w28 ⟨rfl, hb⟩;  replace BK126 := bk_ BK126 hb; replace HB := bs_ HB hb; (try clear hb))))
 go_ret
 exact en_ HB))
def typedB (l0 : List (S64)) (x : S27) : Bool := (Dc.f l0 x.f0 x.f1 x.f2 x.f3.f0 x.f3.f1 x.f3.f2 x.f4 x.f5 x.f6).getD false
theorem typed_some (l0 : List (S64)) (x : S27) : Dc.f l0 x.f0 x.f1 x.f2 x.f3.f0 x.f3.f1 x.f3.f2 x.f4 x.f5 x.f6 = some (typedB l0 x) := by
 refine Ans.getD ?_ false
 unfold Dc.f Bw.f
 have hb := idxOf_lt (fun y : S64 => y.f0.toList == x.f1.toList) l0
 generalize idxOf (fun y : S64 => y.f0.toList == x.f1.toList) l0 = q at hb
 simp only [Option.bind_some]
 by_cases h0 : 0 ≤ q
 ·(
 have h1 : mx q 0 = q := by unfold mx; split <;> omega
 rw [h1]
 repeat' (first | exact Ans.some_ _ | (rw [if_pos h0]) | (rw [if_pos hb]) | refine Ans.ite ?_ ?_))
 ·(
 rw [decide_eq_false h0]
 repeat' (first | exact Ans.some_ _ | rw [if_neg (show ¬ (false = true) by decide)] | refine Ans.ite ?_ ?_))
def typedStep (l0 : List (S64)) (x : S27) (_ : Unit) : Bool × Unit := (typedB l0 x, ())
def mayB (x : S27) : Bool := (ev mayStep 6 x 0).1
def fitsE (l0 : List (S64)) (x : S27) : Int := if mayB x = true ∧ checkE l0 = 0 then (if (ev (typedStep l0) 6 x ()).1 = true then 0 else 10) else 1
def CellSl (B : Nat) (v : Value) (W : World) : Prop := W.heap[B]? = some (.cells #[v] 22 (0, 0))
set_option maxHeartbeats 4000000 in
theorem Db.closure (B : Nat) (w0 : World) (hB0 : w0.heap.size ≤ B) (A0 : Option Addr) (c0 : Nat) (l0 : List (S64)) (hr0 : Kd.C k64 w0 A0 l0.length l0) (hc0 : l0.length ≤ c0) :
    Steps (typedStep l0) 46 #[.pointer (some ⟨B, 0, none⟩)] B w0 (fun _ => CellSl B (.slice A0 l0.length c0)) := by
 intro W s x A8 c8 hw hB hI hl hk
 have hu := Try.underlying27
 have hne : B ≠ W.heap.size := by omega
 have hcB : W.cell? ⟨B, 0, none⟩ = some (.slice A0 l0.length c0) := (Ab hI 0).trans rfl
 have HI := Aa.mk (Ae hI (.cells #[.int .i64 x.f0, .string x.f1, .int .i64 x.f2, .bool x.f3.f0, .int .i64 x.f3.f1, .string x.f3.f2, .int .i64 x.f4, .string x.f5, .slice A8 x.f6.length c8] 27))
 have HB := Aa.mk (Ak hw (.cells #[.int .i64 x.f0, .string x.f1, .int .i64 x.f2, .bool x.f3.f0, .int .i64 x.f3.f1, .string x.f3.f2, .int .i64 x.f4, .string x.f5, .slice A8 x.f6.length c8] 27))
 have hty := Dc.calls A0 c0 l0 x.f0 x.f1 x.f2 x.f3.f0 x.f3.f1 x.f3.f2 x.f4 x.f5 A8 c8 x.f6 _ (W.alloc (.cells #[.int .i64 x.f0, .string x.f1, .int .i64 x.f2, .bool x.f3.f0, .int .i64 x.f3.f1, .string x.f3.f2, .int .i64 x.f4, .string x.f5, .slice A8 x.f6.length c8] 27)) (Kd.C_below hr0 HB.out) hc0 (Kd.C_below hk HB.out) hl (typed_some l0 x)
 have hm := Kd.C_max hk
 have hst : typedStep l0 x s = (typedB l0 x, ()) := rfl
 rw [hst]
 clear hst hr0 hk hw hI
 generalize typedB l0 x = tb at hty ⊢
 go_enter Try.func46, Try.ntmps46
 go_wp2_with fail
 refine hty.mono ?_
 rintro e w2 ⟨rfl, hb⟩
 have HI2 : Aa (CellSl B (.slice A0 l0.length c0) w2) := ⟨Ct HI.out hb⟩
 have HB2 := Aa.mk (Cp HB.out hb)
 have HK2 := Aa.mk ((keep_alloc (KeepBut.refl W B none) _).trans (KeepBut.of_below hb B none) (.inl rfl))
 clear hb hty
 go_wp2
 go_ret
 exact ⟨rfl, HI2.out, HB2.out, HK2.out⟩
def Db.f (l0 : List (S64)) (a1_0 : Int) (a1_1 : ByteArray) (a1_2 : Int) (a1_3 : Bool) (a1_4 : Int) (a1_5 : ByteArray) (a1_6 : Int) (a1_7 : ByteArray) (l1_8 : List S27) : Option Int := some (fitsE l0 ⟨a1_0, a1_1, a1_2, ⟨a1_3, a1_4, a1_5⟩, a1_6, a1_7, l1_8⟩)
theorem Db.calls (A0 : Option Addr) (c0 : Nat) (l0 : List (S64)) (a1_0 : Int) (a1_1 : ByteArray) (a1_2 : Int) (a1_3 : Bool) (a1_4 : Int) (a1_5 : ByteArray) (a1_6 : Int) (a1_7 : ByteArray) (A1_8 : Option Addr) (c1_8 : Nat) (l1_8 : List (S27)) (r : Int) (w : World) (hr0 : Kd.C k64 w A0 l0.length l0) (hc0 : l0.length ≤ c0) (hr1_8 : Kd.C k27 w A1_8 l1_8.length l1_8) (hc1_8 : l1_8.length ≤ c1_8) (h : Db.f l0 a1_0 a1_1 a1_2 a1_3 a1_4 a1_5 a1_6 a1_7 l1_8 = some r) :
    Calls Try.prog 27 #[.slice A0 l0.length c0, .agg #[.int .i64 a1_0, .string a1_1, .int .i64 a1_2, .bool a1_3, .int .i64 a1_4, .string a1_5, .int .i64 a1_6, .string a1_7, .slice A1_8 l1_8.length c1_8]] w fun e w' => e = .returned (.int .i64 r) ∧ Below w.heap.size w w' := by
 simp only [Db.f, Option.some.injEq] at h
 have eg : ∀ args w, (callFunc 46 args).run Try.prog w = .ok (.enter 46 args) w := enters_of Try.func46 (by kernel_rfl) rfl
 have hu := Try.underlying27
 have hm := Kd.C_max hr1_8
 have hm0 := Kd.C_max hr0
 obtain ⟨W2, hW2⟩ : ∃ W2, W2 = (w.alloc (.cells #[.slice A0 l0.length c0] 22)).alloc (.cells #[.int .i64 a1_0, .string a1_1, .int .i64 a1_2, .bool a1_3, .int .i64 a1_4, .string a1_5, .int .i64 a1_6, .string a1_7, .slice A1_8 l1_8.length c1_8] 27) := ⟨_, rfl⟩
 have hB2 : Below w.heap.size w W2 := by rw [hW2]; exact Ak (Ak (Below.refl _ w) _) _
 have hx2 : W2.heap[w.heap.size]? = some (.cells #[.slice A0 l0.length c0] 22 (0, 0)) := by rw [hW2]; exact Ae (heap_alloc_new w _) _
 have hy2 : W2.heap[w.heap.size + 1]? = some (.cells #[.int .i64 a1_0, .string a1_1, .int .i64 a1_2, .bool a1_3, .int .i64 a1_4, .string a1_5, .int .i64 a1_6, .string a1_7, .slice A1_8 l1_8.length c1_8] 27 (0, 0)) := by rw [hW2]; have := heap_alloc_new (w.alloc (.cells #[.slice A0 l0.length c0] 22)) (.cells #[.int .i64 a1_0, .string a1_1, .int .i64 a1_2, .bool a1_3, .int .i64 a1_4, .string a1_5, .int .i64 a1_6, .string a1_7, .slice A1_8 l1_8.length c1_8] 27); simpa using this
 have hmay := pred_May.calls a1_0 a1_1 a1_2 a1_3 a1_4 a1_5 a1_6 a1_7 A1_8 c1_8 l1_8 (mayB ⟨a1_0, a1_1, a1_2, ⟨a1_3, a1_4, a1_5⟩, a1_6, a1_7, l1_8⟩) W2 (Kd.C_below hr1_8 hB2) hc1_8 rfl
 have hchk := fun W (hW : Below w.heap.size w W) => Df.calls A0 c0 l0 (checkE l0) W (Kd.C_below hr0 hW) hc0 rfl
 have hev := fun W (hW : Below w.heap.size w W) (hI : CellSl w.heap.size (.slice A0 l0.length c0) W) => pred_every.at (typedStep l0) 46 #[.pointer (some ⟨w.heap.size, 0, none⟩)] eg w.heap.size w (Nat.le_refl _) (fun _ => CellSl w.heap.size (.slice A0 l0.length c0)) (fun s W o hI => Ae hI o)
  (Db.closure w.heap.size w (Nat.le_refl _) A0 c0 l0 hr0 hc0) 6 ⟨a1_0, a1_1, a1_2, ⟨a1_3, a1_4, a1_5⟩, a1_6, a1_7, l1_8⟩ A1_8 c1_8 () W (by omega) hW (blk_lt hI) hI hc1_8 hr1_8
 simp only at hev
 have HE := Aa.mk hev
 have HC := Aa.mk hchk
 have HB2 := Aa.mk hB2
 have HX2 := Aa.mk hx2
 have HY2 := Aa.mk hy2
 have hfit : fitsE l0 ⟨a1_0, a1_1, a1_2, ⟨a1_3, a1_4, a1_5⟩, a1_6, a1_7, l1_8⟩ = if mayB ⟨a1_0, a1_1, a1_2, ⟨a1_3, a1_4, a1_5⟩, a1_6, a1_7, l1_8⟩ = true ∧ checkE l0 = 0 then (if (ev (typedStep l0) 6 ⟨a1_0, a1_1, a1_2, ⟨a1_3, a1_4, a1_5⟩, a1_6, a1_7, l1_8⟩ ()).1 = true then 0 else 10) else 1 := rfl
 rw [hfit] at h
 clear hev hchk hB2 hx2 hy2 hr0 hr1_8 hfit
 generalize mayB ⟨a1_0, a1_1, a1_2, ⟨a1_3, a1_4, a1_5⟩, a1_6, a1_7, l1_8⟩ = mb at hmay h
 generalize checkE l0 = ce at HC h
 generalize ev (typedStep l0) 6 ⟨a1_0, a1_1, a1_2, ⟨a1_3, a1_4, a1_5⟩, a1_6, a1_7, l1_8⟩ () = te at HE h
 have H := Aa.mk h
 clear h
 rw [hW2] at hmay
 cases mb with
 | false =>(
 have hr : r = 1 := by rw [← H.out]; simp
 subst hr
 subst hW2
 go_enter Try.func27, Try.ntmps27
 go_wp2_with fail
 refine hmay.mono ?_
 rintro e w3 ⟨rfl, hb⟩
 have HB3 := Aa.mk (Cp HB2.out hb)
 clear hb hmay
 go_wp2
 go_ret
 exact ⟨rfl, HB3.out⟩)
 | true =>(
 subst hW2
 go_enter Try.func27, Try.ntmps27
 go_wp2_with fail
 refine hmay.mono ?_
 rintro e w3 ⟨rfl, hb⟩
 have HB3 := Aa.mk (Cp HB2.out hb)
 have hx3 := Ct HX2.out hb
 have hy3 := Ct HY2.out hb
 have HX3 := Aa.mk hx3
 have HY3 := Aa.mk hy3
 have hq0 := (Ab hx3 0).trans rfl
 have hck := HC.out w3 HB3.out
 clear hb hmay hx3 hy3
 go_wp2_with fail
 refine hck.mono ?_
 rintro e w4 ⟨rfl, hb⟩
 have HB4 := Aa.mk (Cp HB3.out hb)
 have hx4 := Ct HX3.out hb
 have hy4 := Ct HY3.out hb
 have HX4 := Aa.mk hx4
 have hz0 := (Ab hy4 0).trans rfl
 have hz1 := (Ab hy4 1).trans rfl
 have hz2 := (Ab hy4 2).trans rfl
 have hz3 := (Ab hy4 3).trans rfl
 have hz4 := (Ab hy4 4).trans rfl
 have hz5 := (Ab hy4 5).trans rfl
 have hz6 := (Ab hy4 6).trans rfl
 have hz7 := (Ab hy4 7).trans rfl
 have hz8 := (Ab hy4 8).trans rfl
 clear hb hck hx4 hy4 hq0
 by_cases hce : ce = 0
 ·(
 have hce1 : (ce != 0) = false := by simp [hce]
 have hce2 : (ce == 0) = true := by simp [hce]
 have hr : (if te.1 = true then (0 : Int) else 10) = r := by rw [← H.out]; simp [hce]
 have hec := HE.out w4 HB4.out HX4.out
 clear hce
 obtain ⟨tb, tu⟩ := te
 simp only at hec hr
 go_wp2_with fail
 refine hec.mono ?_
 rintro e w5 ⟨rfl, _, hb5, _⟩
 have HB5 := Aa.mk hb5
 clear hb5 hec
 cases tb with
 | true =>(
 have hr' : (0 : Int) = r := by simpa using hr
 subst hr'
 clear hr
 go_wp2
 go_ret
 exact ⟨rfl, HB5.out⟩)
 | false =>(
 have hr' : (10 : Int) = r := by simpa using hr
 subst hr'
 clear hr
 go_wp2
 go_ret
 exact ⟨rfl, HB5.out⟩))
 ·(
 have hce1 : (ce != 0) = true := by simpa using hce
 have hce2 : (ce == 0) = false := by simpa using hce
 have hr : (1 : Int) = r := by rw [← H.out]; simp [hce]
 subst hr
 clear hce
 go_wp2
 go_ret
 exact ⟨rfl, HB4.out⟩))
def Cx.f (a0_0 : Int) (a0_1 : Int) (a0_2 : Bool) (a0_3 : Int) (a0_4 : ByteArray) (a0_5 : Bool) (a0_6 : Int) (a0_7 : ByteArray) : Option (Bool) := some (decide (a0_0 > a0_1))
theorem Cx.calls (a0_0 : Int) (a0_1 : Int) (a0_2 : Bool) (a0_3 : Int) (a0_4 : ByteArray) (a0_5 : Bool) (a0_6 : Int) (a0_7 : ByteArray) (r : Bool) (w : World) (h : Cx.f a0_0 a0_1 a0_2 a0_3 a0_4 a0_5 a0_6 a0_7 = some r) :
  Calls Try.prog 48 #[.agg #[.int .i64 a0_0, .int .i64 a0_1, .bool a0_2, .int .i64 a0_3, .string a0_4, .bool a0_5, .int .i64 a0_6, .string a0_7]] w fun e w' => e = .returned (.bool r) ∧ Below w.heap.size w w' := by
 have hu33 := Try.underlying33
 have HB := Aa.mk (Below.refl w.heap.size w)
 have H : (some (decide (a0_0 > a0_1))) = some r := h
 clear h
 obtain rfl := Dp H
 go_enter Try.func48, Try.ntmps48
 go_wp2_with (first | (refine bx_ (N := 1) (cs := #[.int .i64 a0_0, .int .i64 a0_1, .bool a0_2, .int .i64 a0_3, .string a0_4, .bool a0_5, .int .i64 a0_6, .string a0_7]) (t := 33) ?_; intro gb131 hg w2 hbox hb; have BK131 := Aa.mk (hbox); have GW131 := ge_ HB hg; have GE131 := ge_ HB hg; replace HB := bs_ HB hb; clear hb hbox hg; obtain ⟨C3_0, C3_1, C3_2, C3_3, C3_4, C3_5, C3_6, C3_7⟩ := zc8_ BK131.out; obtain ⟨F3_0, F3_1, F3_2, F3_3, F3_4, F3_5, F3_6, F3_7⟩ := zf8_ BK131.out))
 go_ret
 exact en_ HB
def Bq.l0 : Nat → Int → List Int → Int → Int → Option (Int)
 | 0, _, _, _, _ => none
 | k + 1, x3, x6, x7, x8 => if x8 < x7 then (if 0 ≤ x8 then (if x8 < (x6.length : Int) then (if (rd x6 x8) = x3 then (Bq.l0 k x3 x6 x7 (wrap64 (x8 + 1))) else (some (rd x6 x8))) else (none)) else (none)) else (some x3)
def Bq.f (k : Nat) (l0 : List Int) : Option (Int) := Bq.l0 k 0 l0 (l0.length : Int) 0
theorem Bq.mono_l : ∀ k, (∀ y0 y1 y2 y3, LeO (Bq.l0 k y0 y1 y2 y3) (Bq.l0 (k + 1) y0 y1 y2 y3))
 | 0 => fun _ _ _ _ r h => by simp [Bq.l0] at h
 | k + 1 => by
  have ih0 := Bq.mono_l k
  ·intro y0 y1 y2 y3
   unfold Bq.l0
   repeat' first|(with_reducible first|exact ih0 _ _ _ _|exact LeO.refl _|exact LeO.none _|refine LeO.ite ?_ ?_|refine LeO.bind ?_ fun _=>?_)|exact ih0 _ _ _ _|exact LeO.none _|refine LeO.ite ?_ ?_|refine LeO.bind ?_ fun _=>?_
theorem Bq.mono : ∀ a0 k, LeO (Bq.f k a0) (Bq.f (k + 1) a0) := by
 intro a0 k
 have ih0 := Bq.mono_l k
 unfold Bq.f
 repeat' first|(with_reducible first|exact ih0 _ _ _ _|exact LeO.refl _|exact LeO.none _|refine LeO.ite ?_ ?_|refine LeO.bind ?_ fun _=>?_)|exact ih0 _ _ _ _|exact LeO.none _|refine LeO.ite ?_ ?_|refine LeO.bind ?_ fun _=>?_
theorem Bq.calls (k : Nat) (A0 : Option Addr) (c0 : Nat) (l0 : List Int) (r : Int) (w : World) (hr0 : Kd.C (Kd.int .i64) w A0 l0.length l0) (hc0 : l0.length ≤ c0) (h : Bq.f k l0 = some r) :
  Calls Try.prog 70 #[.slice A0 l0.length c0] w fun e w' => e = .returned (.int .i64 r) ∧ Bp w w' := by
 have HR0 := Aa.mk hr0
 have HC0 := Aa.mk hc0
 clear hr0 hc0
 have H : (Bq.l0 k 0 l0 (l0.length : Int) 0) = some r := h
 clear h
 have H' := Aa.mk H
 clear H
 go_enter Try.func70, Try.ntmps70
 go_wp2
 go_loopg [8] k (fun kq v8 w' => ∃ (x8_1 : Int), v8 = .int .i64 x8_1 ∧ Aa (Bq.l0 kq 0 l0 (l0.length : Int) x8_1 = some r) ∧ Aa (kq ≤ k) ∧ Bp w w')
 case atStart => exact ⟨_, (by first | rfl | (simp; done) | (simp [*]; done)), H', ⟨Nat.le_refl _⟩, by repeat (first | exact Bp.refl _ | apply Bp.step)⟩
 case round =>(
 clear H'
 obtain ⟨x8_1, rfl, HA, HK1, ⟨m1, rfl⟩⟩ := hrel
 cases gk with
 | zero => exact absurd HA.out (by simp [Bq.l0])
 | succ k1 =>(
 have H := HA.out
 clear HA
 simp only [Bq.l0] at H
 by_cases c2 : x8_1 < (l0.length : Int)
 ·(
 rw [if_pos c2] at H
 have c2b0 : decide (x8_1 < (l0.length : Int)) = true := decide_eq_true c2
 clear c2
 by_cases c3 : 0 ≤ x8_1
 ·(
 rw [if_pos c3] at H
 have c3b0 : decide (0 ≤ x8_1) = true := decide_eq_true c3
 clear c3
 by_cases c4 : x8_1 < (l0.length : Int)
 ·(
 rw [if_pos c4] at H
 have c4b0 : decide (x8_1 < (l0.length : Int)) = true := decide_eq_true c4
 clear c4
 by_cases c5 : (rd l0 x8_1) = 0
 ·(
 rw [if_pos c5] at H
 have c5b0 : ((rd l0 x8_1) == 0) = true := Dl c5
 have c5b1 : ((rd l0 x8_1) != 0) = false := Dk c5
 clear c5
 have H' := Aa.mk H
 clear H
 have p132 : 0 ≤ (x8_1 : Int) := dt_
 have q132 : x8_1 < (l0.length : Int) := dt_
 obtain ⟨ad132, e132, hx132_0⟩ := Kd.at_int HR0.out x8_1 p132 q132
 cases e132
 replace p132 := eq_true p132
 replace q132 := eq_true q132
 go_wp2
 go_roundg k1
 case measure => have := HK1.out; omega
 case rel => exact ⟨_, (by first | rfl | (simp; done) | (simp [*]; done)), H', ⟨by have := HK1.out; omega⟩, by repeat (first | exact Bp.refl _ | apply Bp.step)⟩)
 ·(
 rw [if_neg c5] at H
 have c5b0 : ((rd l0 x8_1) == 0) = false := Dj c5
 have c5b1 : ((rd l0 x8_1) != 0) = true := Dm c5
 obtain rfl := Dp H
 have p132 : 0 ≤ (x8_1 : Int) := dt_
 have q132 : x8_1 < (l0.length : Int) := dt_
 obtain ⟨ad132, e132, hx132_0⟩ := Kd.at_int HR0.out x8_1 p132 q132
 cases e132
 replace p132 := eq_true p132
 replace q132 := eq_true q132
 go_wp2
 go_ret
 exact ⟨by first | rfl | (simp; done) | (simp [*]; done), by repeat (first | exact Bp.refl _ | apply Bp.step)⟩))
 ·(
 rw [if_neg c4] at H
 exact absurd H (by simp)))
 ·(
 rw [if_neg c3] at H
 exact absurd H (by simp)))
 ·(
 rw [if_neg c2] at H
 have c2b0 : decide (x8_1 < (l0.length : Int)) = false := decide_eq_false c2
 clear c2
 obtain rfl := Dp H
 go_wp2
 go_ret
 exact ⟨by first | rfl | (simp; done) | (simp [*]; done), by repeat (first | exact Bp.refl _ | apply Bp.step)⟩)))
def Ck.f (a0 : Int) : Option (Bool) := some (a0 != a0)
theorem Ck.calls (a0 : Int) (r : Bool) (w : World) (h : Ck.f a0 = some r) :
  Calls Try.prog 94 #[.int .i64 a0] w fun e w' => e = .returned (.bool r) ∧ Bp w w' := by
 have H : (some (a0 != a0)) = some r := h
 clear h
 obtain rfl := Dp H
 go_enter Try.func94, Try.ntmps94
 go_wp2
 go_ret
 exact ⟨by first | rfl | (simp; done) | (simp [*]; done), by repeat (first | exact Bp.refl _ | apply Bp.step)⟩
def Cu.f (a0 : Int) (a1 : Int) : Option (Int) := (Ck.f a0).bind fun t133 => ((Ck.f a1).bind fun t134 => (if t133 = true then (if t134 = true then (some 0) else (some (-1))) else (if t134 = true then (some 1) else (if a0 < a1 then (some (-1)) else (if a0 > a1 then (some 1) else (some 0))))))
theorem Cu.calls (a0 : Int) (a1 : Int) (r : Int) (w : World) (h : Cu.f a0 a1 = some r) :
  Calls Try.prog 71 #[.int .i64 a0, .int .i64 a1] w fun e w' => e = .returned (.int .i64 r) ∧ Bp w w' := by
 have H : ((Ck.f a0).bind fun t133 => ((Ck.f a1).bind fun t134 => (if t133 = true then (if t134 = true then (some 0) else (some (-1))) else (if t134 = true then (some 1) else (if a0 < a1 then (some (-1)) else (if a0 > a1 then (some 1) else (some 0))))))) = some r := h
 clear h
 replace H := Dn H
 obtain ⟨t133, A30, H⟩ := H
 replace H : ((Ck.f a1).bind fun t134 => (if t133 = true then (if t134 = true then (some 0) else (some (-1))) else (if t134 = true then (some 1) else (if a0 < a1 then (some (-1)) else (if a0 > a1 then (some 1) else (some 0)))))) = some r := H
 have A3 := Aa.mk A30
 clear A30
 replace H := Dn H
 obtain ⟨t134, A40, H⟩ := H
 replace H : (if t133 = true then (if t134 = true then (some 0) else (some (-1))) else (if t134 = true then (some 1) else (if a0 < a1 then (some (-1)) else (if a0 > a1 then (some 1) else (some 0))))) = some r := H
 have A4 := Aa.mk A40
 clear A40
 by_cases c5 : t133 = true
 ·(
 subst c5
 have H1 : (if t134 = true then (some 0) else (some (-1))) = some r := by rw [if_pos rfl] at H; exact H
 clear H
 have H := H1
 clear H1
 by_cases c6 : t134 = true
 ·(
 subst c6
 have H1 : (some 0) = some r := by rw [if_pos rfl] at H; exact H
 clear H
 have H := H1
 clear H1
 obtain rfl := Dp H
 go_enter Try.func71, Try.ntmps71
 go_wp2_with (first | ((with_reducible refine Aw (f := 94) rfl ?_); refine gl_ (some 8) rfl Try.func94 #[.int .i64 a0] ?_; (with_reducible refine (Ck.calls a0 true _ A3.out).mono ?_); rintro e w' ⟨rfl, ⟨nd, rfl⟩⟩; refine ⟨_, rfl, ?_⟩) | ((with_reducible refine Aw (f := 94) rfl ?_); refine gl_ (some 10) rfl Try.func94 #[.int .i64 a1] ?_; (with_reducible refine (Ck.calls a1 true _ A4.out).mono ?_); rintro e w' ⟨rfl, ⟨nd, rfl⟩⟩; refine ⟨_, rfl, ?_⟩))
 go_ret
 exact ⟨by first | rfl | (simp; done) | (simp [*]; done), by repeat (first | exact Bp.refl _ | apply Bp.step)⟩)
 ·(
 replace c6 := Dq c6
 subst c6
 have H1 : (some (-1)) = some r := by rw [if_neg (show ¬ (false = true) by decide)] at H; exact H
 clear H
 have H := H1
 clear H1
 obtain rfl := Dp H
 go_enter Try.func71, Try.ntmps71
 go_wp2_with (first | ((with_reducible refine Aw (f := 94) rfl ?_); refine gl_ (some 8) rfl Try.func94 #[.int .i64 a0] ?_; (with_reducible refine (Ck.calls a0 true _ A3.out).mono ?_); rintro e w' ⟨rfl, ⟨nd, rfl⟩⟩; refine ⟨_, rfl, ?_⟩) | ((with_reducible refine Aw (f := 94) rfl ?_); refine gl_ (some 10) rfl Try.func94 #[.int .i64 a1] ?_; (with_reducible refine (Ck.calls a1 false _ A4.out).mono ?_); rintro e w' ⟨rfl, ⟨nd, rfl⟩⟩; refine ⟨_, rfl, ?_⟩))
 go_ret
 exact ⟨by first | rfl | (simp; done) | (simp [*]; done), by repeat (first | exact Bp.refl _ | apply Bp.step)⟩))
 ·(
 replace c5 := Dq c5
 subst c5
 have H1 : (if t134 = true then (some 1) else (if a0 < a1 then (some (-1)) else (if a0 > a1 then (some 1) else (some 0)))) = some r := by rw [if_neg (show ¬ (false = true) by decide)] at H; exact H
 clear H
 have H := H1
 clear H1
 by_cases c7 : t134 = true
 ·(
 subst c7
 have H1 : (some 1) = some r := by rw [if_pos rfl] at H; exact H
 clear H
 have H := H1
 clear H1
 obtain rfl := Dp H
 go_enter Try.func71, Try.ntmps71
 go_wp2_with (first | ((with_reducible refine Aw (f := 94) rfl ?_); refine gl_ (some 8) rfl Try.func94 #[.int .i64 a0] ?_; (with_reducible refine (Ck.calls a0 false _ A3.out).mono ?_); rintro e w' ⟨rfl, ⟨nd, rfl⟩⟩; refine ⟨_, rfl, ?_⟩) | ((with_reducible refine Aw (f := 94) rfl ?_); refine gl_ (some 10) rfl Try.func94 #[.int .i64 a1] ?_; (with_reducible refine (Ck.calls a1 true _ A4.out).mono ?_); rintro e w' ⟨rfl, ⟨nd, rfl⟩⟩; refine ⟨_, rfl, ?_⟩))
 go_ret
 exact ⟨by first | rfl | (simp; done) | (simp [*]; done), by repeat (first | exact Bp.refl _ | apply Bp.step)⟩)
 ·(
 replace c7 := Dq c7
 subst c7
 have H1 : (if a0 < a1 then (some (-1)) else (if a0 > a1 then (some 1) else (some 0))) = some r := by rw [if_neg (show ¬ (false = true) by decide)] at H; exact H
 clear H
 have H := H1
 clear H1
 by_cases c8 : a0 < a1
 rotate_left
 focus(
 rw [if_neg c8] at H
 have c8b0 : decide (a0 < a1) = false := decide_eq_false c8
 clear c8
 by_cases c9 : a0 > a1
 rotate_left
 focus(
 rw [if_neg c9] at H
 have c9b0 : decide (a1 < a0) = false := decide_eq_false c9)
 rotate_right
 focus(
 rw [if_pos c9] at H
 have c9b0 : decide (a1 < a0) = true := decide_eq_true c9)
 all_goals clear c9)
 rotate_right
 focus(
 rw [if_pos c8] at H
 have c8b0 : decide (a0 < a1) = true := decide_eq_true c8
 clear c8)
 all_goals(
 obtain rfl := Dp H
 go_enter Try.func71, Try.ntmps71
 go_wp2_with (first | ((with_reducible refine Aw (f := 94) rfl ?_); refine gl_ (some 8) rfl Try.func94 #[.int .i64 a0] ?_; (with_reducible refine (Ck.calls a0 false _ A3.out).mono ?_); rintro e w' ⟨rfl, ⟨nd, rfl⟩⟩; refine ⟨_, rfl, ?_⟩) | ((with_reducible refine Aw (f := 94) rfl ?_); refine gl_ (some 10) rfl Try.func94 #[.int .i64 a1] ?_; (with_reducible refine (Ck.calls a1 false _ A4.out).mono ?_); rintro e w' ⟨rfl, ⟨nd, rfl⟩⟩; refine ⟨_, rfl, ?_⟩))
 go_ret
 exact ⟨by first | rfl | (simp; done) | (simp [*]; done), by repeat (first | exact Bp.refl _ | apply Bp.step)⟩)))
end Go.Proofs.Ytdedmhmomoejkaa.X
