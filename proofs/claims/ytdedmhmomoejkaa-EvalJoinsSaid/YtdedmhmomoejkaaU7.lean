/- Words and walks for evalJoins_holds, part 7 of the texts that a program of this session laid together. -/
import Derived.Test.YtdedmhmomoejkaaU2
import Derived.Test.YtdedmhmomoejkaaU4
import Derived.Test.YtdedmhmomoejkaaU6
namespace Go.Proofs.Ytdedmhmomoejkaa.X
open Go.RowKit Go.Proofs.YtdedmhmomoejkaaW.PrintWords Go.Proofs.YtdedmhmomoejkaaW.PrintLast Go.Proofs.YtdedmhmomoejkaaW.PrintMore
attribute [local go_sem] max2_int max_two
set_option linter.unusedVariables false
set_option linter.unusedSimpArgs false
def firkinlaw20_live.f (k : Nat)  : Option (Bool) := (some (([(⟨(⟨#[97]⟩ : ByteArray), 1, true⟩ : S64)] : List (S64)) : List (S64))).bind fun y522 => ((some (([(⟨true, 0, (⟨#[]⟩ : ByteArray)⟩ : S24)] : List (S24)) : List (S24))).bind fun y525 => ((eval_Row.f k y522 2 (⟨#[97]⟩ : ByteArray) 1 false 5 (⟨#[]⟩ : ByteArray) 1 (⟨#[]⟩ : ByteArray) ([] : List (S27)) y525).bind fun bt529 => ((eval_Row.f k y522 5 (⟨#[]⟩ : ByteArray) 0 false 0 (⟨#[]⟩ : ByteArray) 0 (⟨#[]⟩ : ByteArray) (([(⟨2, (⟨#[97]⟩ : ByteArray), 1, (⟨false, 5, (⟨#[]⟩ : ByteArray)⟩ : S24), 1, (⟨#[]⟩ : ByteArray), ([] : List (S27))⟩ : S27)] : List (S27))) y525).bind fun bt534 => ((eval_Row.f k y522 3 (⟨#[97]⟩ : ByteArray) 0 false 0 (⟨#[]⟩ : ByteArray) 0 (⟨#[]⟩ : ByteArray) ([] : List (S27)) y525).bind fun bt536 => ((firkinlaw20_num.f bt529.2).bind fun t538 => ((firkinlaw20_num.f bt534.2).bind fun t539 => ((firkinlaw20_num.f bt536.2).bind fun t540 => (if (wrap64 ((wrap64 (t538 + t539)) + t540)) = 0 then (if bt529.1 = 2 then (if bt534.1 = 2 then (some (bt536.1 == 1)) else (some false)) else (some false)) else (some false)))))))))
theorem firkinlaw20_live.mono : ∀ k, LeO (firkinlaw20_live.f k ) (firkinlaw20_live.f (k + 1) ) := by
 intro  k
 unfold firkinlaw20_live.f
 repeat' first
   | (with_reducible exact eval_Row.mono _ _ _ _ _ _ _ _ _ _ _ _)
   | (with_reducible exact LeO.refl _)
   | (with_reducible exact LeO.none _)
   | (with_reducible refine LeO.ite ?_ ?_)
   | (with_reducible refine LeO.bind ?_ (fun _ => ?_))
   | exact eval_Row.mono _ _ _ _ _ _ _ _ _ _ _ _
   | exact LeO.none _
   | refine LeO.ite ?_ ?_
   | refine LeO.bind ?_ (fun _ => ?_)
set_option maxHeartbeats 8000000 in
set_option maxRecDepth 100000 in
theorem firkinlaw20_live.calls (k : Nat)  (r : Bool) (w : World) (h : firkinlaw20_live.f k  = some r) :
  Calls Try.prog 21 #[] w fun e w' => e = .returned (.bool r) ∧ Below w.heap.size w w' := by
 have hu64 := Try.underlying64
 have hu24 := Try.underlying24
 have hu27 := Try.underlying27
 have HB := Aside0.mk (Below.refl w.heap.size w)
 have H : ((some (([(⟨(⟨#[97]⟩ : ByteArray), 1, true⟩ : S64)] : List (S64)) : List (S64))).bind fun y522 => ((some (([(⟨true, 0, (⟨#[]⟩ : ByteArray)⟩ : S24)] : List (S24)) : List (S24))).bind fun y525 => ((eval_Row.f k y522 2 (⟨#[97]⟩ : ByteArray) 1 false 5 (⟨#[]⟩ : ByteArray) 1 (⟨#[]⟩ : ByteArray) ([] : List (S27)) y525).bind fun bt529 => ((eval_Row.f k y522 5 (⟨#[]⟩ : ByteArray) 0 false 0 (⟨#[]⟩ : ByteArray) 0 (⟨#[]⟩ : ByteArray) (([(⟨2, (⟨#[97]⟩ : ByteArray), 1, (⟨false, 5, (⟨#[]⟩ : ByteArray)⟩ : S24), 1, (⟨#[]⟩ : ByteArray), ([] : List (S27))⟩ : S27)] : List (S27))) y525).bind fun bt534 => ((eval_Row.f k y522 3 (⟨#[97]⟩ : ByteArray) 0 false 0 (⟨#[]⟩ : ByteArray) 0 (⟨#[]⟩ : ByteArray) ([] : List (S27)) y525).bind fun bt536 => ((firkinlaw20_num.f bt529.2).bind fun t538 => ((firkinlaw20_num.f bt534.2).bind fun t539 => ((firkinlaw20_num.f bt536.2).bind fun t540 => (if (wrap64 ((wrap64 (t538 + t539)) + t540)) = 0 then (if bt529.1 = 2 then (if bt534.1 = 2 then (some (bt536.1 == 1)) else (some false)) else (some false)) else (some false)))))))))) = some r := h
 clear h
 obtain ⟨y522, hy522⟩ : ∃ y_ : List (S64), y_ = (([(⟨(⟨#[97]⟩ : ByteArray), 1, true⟩ : S64)] : List (S64))) := ⟨_, rfl⟩
 replace H : ((some (([(⟨true, 0, (⟨#[]⟩ : ByteArray)⟩ : S24)] : List (S24)) : List (S24))).bind fun y525 => ((eval_Row.f k y522 2 (⟨#[97]⟩ : ByteArray) 1 false 5 (⟨#[]⟩ : ByteArray) 1 (⟨#[]⟩ : ByteArray) ([] : List (S27)) y525).bind fun bt529 => ((eval_Row.f k y522 5 (⟨#[]⟩ : ByteArray) 0 false 0 (⟨#[]⟩ : ByteArray) 0 (⟨#[]⟩ : ByteArray) (([(⟨2, (⟨#[97]⟩ : ByteArray), 1, (⟨false, 5, (⟨#[]⟩ : ByteArray)⟩ : S24), 1, (⟨#[]⟩ : ByteArray), ([] : List (S27))⟩ : S27)] : List (S27))) y525).bind fun bt534 => ((eval_Row.f k y522 3 (⟨#[97]⟩ : ByteArray) 0 false 0 (⟨#[]⟩ : ByteArray) 0 (⟨#[]⟩ : ByteArray) ([] : List (S27)) y525).bind fun bt536 => ((firkinlaw20_num.f bt529.2).bind fun t538 => ((firkinlaw20_num.f bt534.2).bind fun t539 => ((firkinlaw20_num.f bt536.2).bind fun t540 => (if (wrap64 ((wrap64 (t538 + t539)) + t540)) = 0 then (if bt529.1 = 2 then (if bt534.1 = 2 then (some (bt536.1 == 1)) else (some false)) else (some false)) else (some false))))))))) = some r := by first | (rw [hy522]; with_reducible exact H) | (have H2_ := (Option.bind_some _ _).symm.trans H; rw [hy522]; with_reducible exact H2_) | (have H2_ := (Option.bind_some _ _).symm.trans H; with_reducible exact H2_) | with_reducible exact H | (rw [hy522]; exact H) | exact H
 have Ny522 := Aside0.mk hy522
 clear hy522
 obtain ⟨y525, hy525⟩ : ∃ y_ : List (S24), y_ = (([(⟨true, 0, (⟨#[]⟩ : ByteArray)⟩ : S24)] : List (S24))) := ⟨_, rfl⟩
 replace H : ((eval_Row.f k y522 2 (⟨#[97]⟩ : ByteArray) 1 false 5 (⟨#[]⟩ : ByteArray) 1 (⟨#[]⟩ : ByteArray) ([] : List (S27)) y525).bind fun bt529 => ((eval_Row.f k y522 5 (⟨#[]⟩ : ByteArray) 0 false 0 (⟨#[]⟩ : ByteArray) 0 (⟨#[]⟩ : ByteArray) (([(⟨2, (⟨#[97]⟩ : ByteArray), 1, (⟨false, 5, (⟨#[]⟩ : ByteArray)⟩ : S24), 1, (⟨#[]⟩ : ByteArray), ([] : List (S27))⟩ : S27)] : List (S27))) y525).bind fun bt534 => ((eval_Row.f k y522 3 (⟨#[97]⟩ : ByteArray) 0 false 0 (⟨#[]⟩ : ByteArray) 0 (⟨#[]⟩ : ByteArray) ([] : List (S27)) y525).bind fun bt536 => ((firkinlaw20_num.f bt529.2).bind fun t538 => ((firkinlaw20_num.f bt534.2).bind fun t539 => ((firkinlaw20_num.f bt536.2).bind fun t540 => (if (wrap64 ((wrap64 (t538 + t539)) + t540)) = 0 then (if bt529.1 = 2 then (if bt534.1 = 2 then (some (bt536.1 == 1)) else (some false)) else (some false)) else (some false)))))))) = some r := by first | (rw [hy525]; with_reducible exact H) | (have H2_ := (Option.bind_some _ _).symm.trans H; rw [hy525]; with_reducible exact H2_) | (have H2_ := (Option.bind_some _ _).symm.trans H; with_reducible exact H2_) | with_reducible exact H | (rw [hy525]; exact H) | exact H
 have Ny525 := Aside0.mk hy525
 clear hy525
 replace H := Option.bind_eq_some_iff.mp H
 obtain ⟨⟨t529, t530⟩, A10, H⟩ := H
 replace H : ((eval_Row.f k y522 5 (⟨#[]⟩ : ByteArray) 0 false 0 (⟨#[]⟩ : ByteArray) 0 (⟨#[]⟩ : ByteArray) (([(⟨2, (⟨#[97]⟩ : ByteArray), 1, (⟨false, 5, (⟨#[]⟩ : ByteArray)⟩ : S24), 1, (⟨#[]⟩ : ByteArray), ([] : List (S27))⟩ : S27)] : List (S27))) y525).bind fun bt534 => ((eval_Row.f k y522 3 (⟨#[97]⟩ : ByteArray) 0 false 0 (⟨#[]⟩ : ByteArray) 0 (⟨#[]⟩ : ByteArray) ([] : List (S27)) y525).bind fun bt536 => ((firkinlaw20_num.f t530).bind fun t538 => ((firkinlaw20_num.f bt534.2).bind fun t539 => ((firkinlaw20_num.f bt536.2).bind fun t540 => (if (wrap64 ((wrap64 (t538 + t539)) + t540)) = 0 then (if t529 = 2 then (if bt534.1 = 2 then (some (bt536.1 == 1)) else (some false)) else (some false)) else (some false))))))) = some r := H
 have A1 := Aside0.mk A10
 clear A10
 obtain ⟨y531, hy531⟩ : ∃ y_ : List (S27), y_ = (([(⟨2, (⟨#[97]⟩ : ByteArray), 1, (⟨false, 5, (⟨#[]⟩ : ByteArray)⟩ : S24), 1, (⟨#[]⟩ : ByteArray), ([] : List (S27))⟩ : S27)] : List (S27))) := ⟨_, rfl⟩
 replace H : ((eval_Row.f k y522 5 (⟨#[]⟩ : ByteArray) 0 false 0 (⟨#[]⟩ : ByteArray) 0 (⟨#[]⟩ : ByteArray) y531 y525).bind fun bt534 => ((eval_Row.f k y522 3 (⟨#[97]⟩ : ByteArray) 0 false 0 (⟨#[]⟩ : ByteArray) 0 (⟨#[]⟩ : ByteArray) ([] : List (S27)) y525).bind fun bt536 => ((firkinlaw20_num.f t530).bind fun t538 => ((firkinlaw20_num.f bt534.2).bind fun t539 => ((firkinlaw20_num.f bt536.2).bind fun t540 => (if (wrap64 ((wrap64 (t538 + t539)) + t540)) = 0 then (if t529 = 2 then (if bt534.1 = 2 then (some (bt536.1 == 1)) else (some false)) else (some false)) else (some false))))))) = some r := by first | (rw [hy531]; with_reducible exact H) | (have H2_ := (Option.bind_some _ _).symm.trans H; rw [hy531]; with_reducible exact H2_) | (have H2_ := (Option.bind_some _ _).symm.trans H; with_reducible exact H2_) | with_reducible exact H | (rw [hy531]; exact H) | exact H
 have Ny531 := Aside0.mk hy531
 clear hy531
 replace H := Option.bind_eq_some_iff.mp H
 obtain ⟨⟨t534, t535⟩, A20, H⟩ := H
 replace H : ((eval_Row.f k y522 3 (⟨#[97]⟩ : ByteArray) 0 false 0 (⟨#[]⟩ : ByteArray) 0 (⟨#[]⟩ : ByteArray) ([] : List (S27)) y525).bind fun bt536 => ((firkinlaw20_num.f t530).bind fun t538 => ((firkinlaw20_num.f t535).bind fun t539 => ((firkinlaw20_num.f bt536.2).bind fun t540 => (if (wrap64 ((wrap64 (t538 + t539)) + t540)) = 0 then (if t529 = 2 then (if t534 = 2 then (some (bt536.1 == 1)) else (some false)) else (some false)) else (some false)))))) = some r := H
 have A2 := Aside0.mk A20
 clear A20
 replace H := Option.bind_eq_some_iff.mp H
 obtain ⟨⟨t536, t537⟩, A30, H⟩ := H
 replace H : ((firkinlaw20_num.f t530).bind fun t538 => ((firkinlaw20_num.f t535).bind fun t539 => ((firkinlaw20_num.f t537).bind fun t540 => (if (wrap64 ((wrap64 (t538 + t539)) + t540)) = 0 then (if t529 = 2 then (if t534 = 2 then (some (t536 == 1)) else (some false)) else (some false)) else (some false))))) = some r := H
 have A3 := Aside0.mk A30
 clear A30
 replace H := Option.bind_eq_some_iff.mp H
 obtain ⟨t538, A40, H⟩ := H
 replace H : ((firkinlaw20_num.f t535).bind fun t539 => ((firkinlaw20_num.f t537).bind fun t540 => (if (wrap64 ((wrap64 (t538 + t539)) + t540)) = 0 then (if t529 = 2 then (if t534 = 2 then (some (t536 == 1)) else (some false)) else (some false)) else (some false)))) = some r := H
 have A4 := Aside0.mk A40
 clear A40
 replace H := Option.bind_eq_some_iff.mp H
 obtain ⟨t539, A50, H⟩ := H
 replace H : ((firkinlaw20_num.f t537).bind fun t540 => (if (wrap64 ((wrap64 (t538 + t539)) + t540)) = 0 then (if t529 = 2 then (if t534 = 2 then (some (t536 == 1)) else (some false)) else (some false)) else (some false))) = some r := H
 have A5 := Aside0.mk A50
 clear A50
 replace H := Option.bind_eq_some_iff.mp H
 obtain ⟨t540, A60, H⟩ := H
 replace H : (if (wrap64 ((wrap64 (t538 + t539)) + t540)) = 0 then (if t529 = 2 then (if t534 = 2 then (some (t536 == 1)) else (some false)) else (some false)) else (some false)) = some r := H
 have A6 := Aside0.mk A60
 clear A60
 by_cases c7 : (wrap64 ((wrap64 (t538 + t539)) + t540)) = 0
 ·rw [if_pos c7] at H
  have c7b0 : ((wrap64 ((wrap64 (t538 + t539)) + t540)) == 0) = true := beq_iff_eq.mpr c7
  have c7b1 : ((wrap64 ((wrap64 (t538 + t539)) + t540)) != 0) = false := bne_eq_false_iff_eq.mpr c7
  clear c7
  by_cases c8 : t529 = 2
  ·rw [if_pos c8] at H
   have c8b0 : (t529 == 2) = true := beq_iff_eq.mpr c8
   have c8b1 : (t529 != 2) = false := bne_eq_false_iff_eq.mpr c8
   clear c8
   by_cases c9 : t534 = 2
   ·rw [if_pos c9] at H
    have c9b0 : (t534 == 2) = true := beq_iff_eq.mpr c9
    have c9b1 : (t534 != 2) = false := bne_eq_false_iff_eq.mpr c9
    clear c9
    obtain rfl := Option.some.inj H
    go_enter Try.func21, Try.ntmps21
    go_wp2_with (first | ((with_reducible refine gate_dst (N := 11) rfl ?_); refine Kd.R_lit k64 _ 64 ?hg (N := 11) ?hd (xs := ([(⟨(⟨#[97]⟩ : ByteArray), 1, true⟩ : S64)] : List (S64))) (inner := [.string (⟨#[97]⟩ : ByteArray), .int .i64 1, .bool true]) (ok := fun _ => True) (okp := fun _ => True) ?hr ?hp (fun _ hk => hk) trivial (Below.refl _ _) (Nat.le_refl _) (by simp) ?_; (case hd => rfl); (case hg => rfl); (case hr => first | (go_simp; done) | (go_simp; rfl)); (case hp => exact (Reps.c3 (show Kd.M k64 _ _ _ (⟨(⟨#[97]⟩ : ByteArray), 1, true⟩ : S64) [.string (⟨#[97]⟩ : ByteArray), .int .i64 1, .bool true] from (k64_mkM _ _ _ (⟨(⟨#[97]⟩ : ByteArray), 1, true⟩ : S64) )) (Reps.none _ _))); intro v523 w10 ho11 hb hg_ hnew_; clear hg_ hnew_; (first | rw [← Ny522.out] at ho11 | (simp only [Int.reduceToNat] at ho11; rw [← Ny522.out] at ho11)); have HO524 := Aside0.mk (Kd.R_lower ho11 (below_size (by repeat (first | (with_reducible first | exact HB.out | apply below_alloc | apply pw_below_drewN | apply below_drew1) | exact HB.out)))); replace HB := bs_ HB hb; clear hb ho11) | ((with_reducible refine gate_dst (N := 13) rfl ?_); refine Kd.R_lit k24 _ 24 ?hg (N := 13) ?hd (xs := ([(⟨true, 0, (⟨#[]⟩ : ByteArray)⟩ : S24)] : List (S24))) (inner := [.bool true, .int .i64 0, .string (⟨#[]⟩ : ByteArray)]) (ok := fun _ => True) (okp := fun _ => True) ?hr ?hp (fun _ hk => hk) trivial (Below.refl _ _) (Nat.le_refl _) (by simp) ?_; (case hd => rfl); (case hg => rfl); (case hr => first | (go_simp; done) | (go_simp; rfl)); (case hp => exact (Reps.c3 (show Kd.M k24 _ _ _ (⟨true, 0, (⟨#[]⟩ : ByteArray)⟩ : S24) [.bool true, .int .i64 0, .string (⟨#[]⟩ : ByteArray)] from (k24_mkM _ _ _ (⟨true, 0, (⟨#[]⟩ : ByteArray)⟩ : S24) )) (Reps.none _ _))); intro v526 w12 ho13 hb hg_ hnew_; clear hg_ hnew_; (first | rw [← Ny525.out] at ho13 | (simp only [Int.reduceToNat] at ho13; rw [← Ny525.out] at ho13)); have n0_ := Aside0.mk (Kd.R_below (by (with_reducible repeat (first | apply Kd.R_alloc | apply Kd.R_drewN | apply Kd.R_drew)); exact HO524.out) hb); have n1_ := Aside0.mk (Kd.R_lower ho13 (below_size (by repeat (first | (with_reducible first | exact HB.out | apply below_alloc | apply pw_below_drewN | apply below_drew1) | exact HB.out)))); have n2_ := bs_ HB hb; clear HO524; clear HB; have HO524 := n0_; have HO527 := n1_; have HB := n2_; clear n0_ n1_ n2_; clear hb ho13) | (refine bx_ (N := 3) (cs := #[.int .i64 0, .string (⟨#[]⟩ : ByteArray), .int .i64 0, .bool false, .int .i64 0, .string (⟨#[]⟩ : ByteArray), .int .i64 0, .string (⟨#[]⟩ : ByteArray), .slice none 0 0]) (t := 27) ?_; intro gb528 hg w14 hbox hb; have n0_ := Aside0.mk (Kd.R_below (by (with_reducible repeat (first | apply Kd.R_alloc | apply Kd.R_drewN | apply Kd.R_drew)); exact HO524.out) hb); have n1_ := Aside0.mk (Kd.R_below (by (with_reducible repeat (first | apply Kd.R_alloc | apply Kd.R_drewN | apply Kd.R_drew)); exact HO527.out) hb); have n2_ := bs_ HB hb; have n3_ := Aside0.mk (hbox); have n4_ := ge_ HB hg; have n5_ := ge_ HB hg; clear HO524; clear HO527; clear HB; have HO524 := n0_; have HO527 := n1_; have HB := n2_; have BK528 := n3_; have GW528 := n4_; have GE528 := n5_; clear n0_ n1_ n2_ n3_ n4_ n5_; clear hb hbox hg; obtain ⟨C15_0, C15_1, C15_2, C15_3, C15_4, C15_5, C15_6, C15_7, C15_8⟩ := zc9_ BK528.out; obtain ⟨F15_0, F15_1, F15_2, F15_3, F15_4, F15_5, F15_6, F15_7, F15_8⟩ := zf9_ BK528.out; obtain ⟨Ao16, co16, eo16⟩ := Kd.R_slice HO524.out; subst eo16; obtain ⟨Ao17, co17, eo17⟩ := Kd.R_slice HO527.out; subst eo17) | ((with_reducible refine gate_callee (f := 22) rfl ?_); refine gl_ (some 20) rfl Try.func22 #[.slice Ao16 y522.length co16, .agg #[.int .i64 2, .string (⟨#[97]⟩ : ByteArray), .int .i64 1, .bool false, .int .i64 5, .string (⟨#[]⟩ : ByteArray), .int .i64 1, .string (⟨#[]⟩ : ByteArray), .slice none 0 0], .slice Ao17 y525.length co17] ?_; (refine (eval_Row.calls k _ _ y522 2 (⟨#[97]⟩ : ByteArray) 1 false 5 (⟨#[]⟩ : ByteArray) 1 (⟨#[]⟩ : ByteArray) _ _ ([] : List (S27)) _ _ y525 t529 t530 _ ?side1 ?side2 ?side3 ?side4 ?side5 ?side6 A1.out).mono ?_); (case side1 => refine (Kd.R_reads' (e := 64) (base := w.heap.size) (ok := fun k_ => True) (n := y522.length) (c := co16) ?_).2.2; exact (by (with_reducible repeat (first | apply Kd.R_alloc | apply Kd.R_drewN | apply Kd.R_drew)); exact (Kd.R_mono (Kd.R_far (p := ⟨gb528, 8, none⟩) (Kd.R_far (p := ⟨gb528, 7, none⟩) (Kd.R_far (p := ⟨gb528, 6, none⟩) (Kd.R_far (p := ⟨gb528, 5, none⟩) (Kd.R_far (p := ⟨gb528, 4, none⟩) (Kd.R_far (p := ⟨gb528, 3, none⟩) (Kd.R_far (p := ⟨gb528, 2, none⟩) (Kd.R_far (p := ⟨gb528, 1, none⟩) (Kd.R_far (p := ⟨gb528, 0, none⟩) (Kd.R_types HO524.out BK528.out (by decide)) (fun _ hk => hk.2) (.int .i64 2)) (fun _ hk => hk.2) (.string (⟨#[97]⟩ : ByteArray))) (fun _ hk => hk.2) (.int .i64 1)) (fun _ hk => hk.2) (.bool false)) (fun _ hk => hk.2) (.int .i64 5)) (fun _ hk => hk.2) (.string (⟨#[]⟩ : ByteArray))) (fun _ hk => hk.2) (.int .i64 1)) (fun _ hk => hk.2) (.string (⟨#[]⟩ : ByteArray))) (fun _ hk => hk.2) (.slice none 0 0)) (fun _ h_ => h_.1)))); (case side2 => exact (Kd.R_reads' HO524.out).2.1); (case side3 => exact Kd.C_nil _ _); (case side4 => exact Nat.le_refl _); (case side5 => refine (Kd.R_reads' (e := 24) (base := w.heap.size) (ok := fun k_ => True) (n := y525.length) (c := co17) ?_).2.2; exact (by (with_reducible repeat (first | apply Kd.R_alloc | apply Kd.R_drewN | apply Kd.R_drew)); exact (Kd.R_mono (Kd.R_far (p := ⟨gb528, 8, none⟩) (Kd.R_far (p := ⟨gb528, 7, none⟩) (Kd.R_far (p := ⟨gb528, 6, none⟩) (Kd.R_far (p := ⟨gb528, 5, none⟩) (Kd.R_far (p := ⟨gb528, 4, none⟩) (Kd.R_far (p := ⟨gb528, 3, none⟩) (Kd.R_far (p := ⟨gb528, 2, none⟩) (Kd.R_far (p := ⟨gb528, 1, none⟩) (Kd.R_far (p := ⟨gb528, 0, none⟩) (Kd.R_types HO527.out BK528.out (by decide)) (fun _ hk => hk.2) (.int .i64 2)) (fun _ hk => hk.2) (.string (⟨#[97]⟩ : ByteArray))) (fun _ hk => hk.2) (.int .i64 1)) (fun _ hk => hk.2) (.bool false)) (fun _ hk => hk.2) (.int .i64 5)) (fun _ hk => hk.2) (.string (⟨#[]⟩ : ByteArray))) (fun _ hk => hk.2) (.int .i64 1)) (fun _ hk => hk.2) (.string (⟨#[]⟩ : ByteArray))) (fun _ hk => hk.2) (.slice none 0 0)) (fun _ h_ => h_.1)))); (case side6 => exact (Kd.R_reads' HO527.out).2.1); rintro e w18 ⟨rfl, hb⟩; refine ⟨_, rfl, ?_⟩; have n0_ := Aside0.mk (Kd.R_below (by (with_reducible repeat (first | apply Kd.R_alloc | apply Kd.R_drewN | apply Kd.R_drew)); exact (Kd.R_mono (Kd.R_far (p := ⟨gb528, 8, none⟩) (Kd.R_far (p := ⟨gb528, 7, none⟩) (Kd.R_far (p := ⟨gb528, 6, none⟩) (Kd.R_far (p := ⟨gb528, 5, none⟩) (Kd.R_far (p := ⟨gb528, 4, none⟩) (Kd.R_far (p := ⟨gb528, 3, none⟩) (Kd.R_far (p := ⟨gb528, 2, none⟩) (Kd.R_far (p := ⟨gb528, 1, none⟩) (Kd.R_far (p := ⟨gb528, 0, none⟩) (Kd.R_types HO524.out BK528.out (by decide)) (fun _ hk => hk.2) (.int .i64 2)) (fun _ hk => hk.2) (.string (⟨#[97]⟩ : ByteArray))) (fun _ hk => hk.2) (.int .i64 1)) (fun _ hk => hk.2) (.bool false)) (fun _ hk => hk.2) (.int .i64 5)) (fun _ hk => hk.2) (.string (⟨#[]⟩ : ByteArray))) (fun _ hk => hk.2) (.int .i64 1)) (fun _ hk => hk.2) (.string (⟨#[]⟩ : ByteArray))) (fun _ hk => hk.2) (.slice none 0 0)) (fun _ h_ => h_.1))) hb); have n1_ := Aside0.mk (Kd.R_below (by (with_reducible repeat (first | apply Kd.R_alloc | apply Kd.R_drewN | apply Kd.R_drew)); exact (Kd.R_mono (Kd.R_far (p := ⟨gb528, 8, none⟩) (Kd.R_far (p := ⟨gb528, 7, none⟩) (Kd.R_far (p := ⟨gb528, 6, none⟩) (Kd.R_far (p := ⟨gb528, 5, none⟩) (Kd.R_far (p := ⟨gb528, 4, none⟩) (Kd.R_far (p := ⟨gb528, 3, none⟩) (Kd.R_far (p := ⟨gb528, 2, none⟩) (Kd.R_far (p := ⟨gb528, 1, none⟩) (Kd.R_far (p := ⟨gb528, 0, none⟩) (Kd.R_types HO527.out BK528.out (by decide)) (fun _ hk => hk.2) (.int .i64 2)) (fun _ hk => hk.2) (.string (⟨#[97]⟩ : ByteArray))) (fun _ hk => hk.2) (.int .i64 1)) (fun _ hk => hk.2) (.bool false)) (fun _ hk => hk.2) (.int .i64 5)) (fun _ hk => hk.2) (.string (⟨#[]⟩ : ByteArray))) (fun _ hk => hk.2) (.int .i64 1)) (fun _ hk => hk.2) (.string (⟨#[]⟩ : ByteArray))) (fun _ hk => hk.2) (.slice none 0 0)) (fun _ h_ => h_.1))) hb); have n2_ := Aside0.mk (blk_below (g := gb528) (o := .cells #[.int .i64 2, .string (⟨#[97]⟩ : ByteArray), .int .i64 1, .bool false, .int .i64 5, .string (⟨#[]⟩ : ByteArray), .int .i64 1, .string (⟨#[]⟩ : ByteArray), .slice none 0 0] 27 (0, 0)) (by (with_reducible repeat (first | refine blk_drewN ?_ _ | refine blk_drew ?_ | refine blk_alloc ?_ _)); refine blk_put (cs := #[.int .i64 2, .string (⟨#[97]⟩ : ByteArray), .int .i64 1, .bool false, .int .i64 5, .string (⟨#[]⟩ : ByteArray), .int .i64 1, .string (⟨#[]⟩ : ByteArray), .slice none 0 0]) ?_ 8 _ rfl; (with_reducible repeat (first | refine blk_drewN ?_ _ | refine blk_drew ?_ | refine blk_alloc ?_ _)); refine blk_put (cs := #[.int .i64 2, .string (⟨#[97]⟩ : ByteArray), .int .i64 1, .bool false, .int .i64 5, .string (⟨#[]⟩ : ByteArray), .int .i64 1, .string (⟨#[]⟩ : ByteArray), .slice none 0 0]) ?_ 7 _ rfl; (with_reducible repeat (first | refine blk_drewN ?_ _ | refine blk_drew ?_ | refine blk_alloc ?_ _)); refine blk_put (cs := #[.int .i64 2, .string (⟨#[97]⟩ : ByteArray), .int .i64 1, .bool false, .int .i64 5, .string (⟨#[]⟩ : ByteArray), .int .i64 0, .string (⟨#[]⟩ : ByteArray), .slice none 0 0]) ?_ 6 _ rfl; (with_reducible repeat (first | refine blk_drewN ?_ _ | refine blk_drew ?_ | refine blk_alloc ?_ _)); refine blk_put (cs := #[.int .i64 2, .string (⟨#[97]⟩ : ByteArray), .int .i64 1, .bool false, .int .i64 5, .string (⟨#[]⟩ : ByteArray), .int .i64 0, .string (⟨#[]⟩ : ByteArray), .slice none 0 0]) ?_ 5 _ rfl; (with_reducible repeat (first | refine blk_drewN ?_ _ | refine blk_drew ?_ | refine blk_alloc ?_ _)); refine blk_put (cs := #[.int .i64 2, .string (⟨#[97]⟩ : ByteArray), .int .i64 1, .bool false, .int .i64 0, .string (⟨#[]⟩ : ByteArray), .int .i64 0, .string (⟨#[]⟩ : ByteArray), .slice none 0 0]) ?_ 4 _ rfl; (with_reducible repeat (first | refine blk_drewN ?_ _ | refine blk_drew ?_ | refine blk_alloc ?_ _)); refine blk_put (cs := #[.int .i64 2, .string (⟨#[97]⟩ : ByteArray), .int .i64 1, .bool false, .int .i64 0, .string (⟨#[]⟩ : ByteArray), .int .i64 0, .string (⟨#[]⟩ : ByteArray), .slice none 0 0]) ?_ 3 _ rfl; (with_reducible repeat (first | refine blk_drewN ?_ _ | refine blk_drew ?_ | refine blk_alloc ?_ _)); refine blk_put (cs := #[.int .i64 2, .string (⟨#[97]⟩ : ByteArray), .int .i64 0, .bool false, .int .i64 0, .string (⟨#[]⟩ : ByteArray), .int .i64 0, .string (⟨#[]⟩ : ByteArray), .slice none 0 0]) ?_ 2 _ rfl; (with_reducible repeat (first | refine blk_drewN ?_ _ | refine blk_drew ?_ | refine blk_alloc ?_ _)); refine blk_put (cs := #[.int .i64 2, .string (⟨#[]⟩ : ByteArray), .int .i64 0, .bool false, .int .i64 0, .string (⟨#[]⟩ : ByteArray), .int .i64 0, .string (⟨#[]⟩ : ByteArray), .slice none 0 0]) ?_ 1 _ rfl; (with_reducible repeat (first | refine blk_drewN ?_ _ | refine blk_drew ?_ | refine blk_alloc ?_ _)); refine blk_put (cs := #[.int .i64 0, .string (⟨#[]⟩ : ByteArray), .int .i64 0, .bool false, .int .i64 0, .string (⟨#[]⟩ : ByteArray), .int .i64 0, .string (⟨#[]⟩ : ByteArray), .slice none 0 0]) ?_ 0 _ rfl; (with_reducible repeat (first | refine blk_drewN ?_ _ | refine blk_drew ?_ | refine blk_alloc ?_ _)); exact BK528.out) hb); have n3_ := bs_ HB hb; clear HO524; clear HO527; clear BK528; clear HB; have HO524 := n0_; have HO527 := n1_; have BK528 := n2_; have HB := n3_; clear n0_ n1_ n2_ n3_; (try clear hb); (try clear hb2); (try clear hk); (try clear hi); obtain ⟨C19_0, C19_1, C19_2, C19_3, C19_4, C19_5, C19_6, C19_7, C19_8⟩ := zc9_ BK528.out; obtain ⟨F19_0, F19_1, F19_2, F19_3, F19_4, F19_5, F19_6, F19_7, F19_8⟩ := zf9_ BK528.out) | ((with_reducible refine gate_dst (N := 26) rfl ?_); refine Kd.R_lit k27 _ 27 ?hg (N := 26) ?hd (xs := ([(⟨2, (⟨#[97]⟩ : ByteArray), 1, (⟨false, 5, (⟨#[]⟩ : ByteArray)⟩ : S24), 1, (⟨#[]⟩ : ByteArray), ([] : List (S27))⟩ : S27)] : List (S27))) (inner := [.int .i64 2, .string (⟨#[97]⟩ : ByteArray), .int .i64 1, .bool false, .int .i64 5, .string (⟨#[]⟩ : ByteArray), .int .i64 1, .string (⟨#[]⟩ : ByteArray), .slice none 0 0]) (ok := fun _ => True) (okp := fun _ => True) ?hr ?hp (fun _ hk => hk) trivial (Below.refl _ _) (Nat.le_refl _) (by simp) ?_; (case hd => rfl); (case hg => rfl); (case hr => first | (go_simp; done) | (go_simp; rfl)); (case hp => exact (Reps.c9 (show Kd.M k27 _ _ _ (⟨2, (⟨#[97]⟩ : ByteArray), 1, (⟨false, 5, (⟨#[]⟩ : ByteArray)⟩ : S24), 1, (⟨#[]⟩ : ByteArray), ([] : List (S27))⟩ : S27) [.int .i64 2, .string (⟨#[97]⟩ : ByteArray), .int .i64 1, .bool false, .int .i64 5, .string (⟨#[]⟩ : ByteArray), .int .i64 1, .string (⟨#[]⟩ : ByteArray), .slice none 0 0] from (k27_mkM _ _ _ (⟨2, (⟨#[97]⟩ : ByteArray), 1, (⟨false, 5, (⟨#[]⟩ : ByteArray)⟩ : S24), 1, (⟨#[]⟩ : ByteArray), ([] : List (S27))⟩ : S27) (Kd.R_nil _ _ _ _ _))) (Reps.none _ _))); intro v532 w20 ho21 hb hg_ hnew_; clear hg_ hnew_; (first | rw [← Ny531.out] at ho21 | (simp only [Int.reduceToNat] at ho21; rw [← Ny531.out] at ho21)); have n0_ := Aside0.mk (Kd.R_below (by (with_reducible repeat (first | apply Kd.R_alloc | apply Kd.R_drewN | apply Kd.R_drew)); exact HO524.out) hb); have n1_ := Aside0.mk (Kd.R_below (by (with_reducible repeat (first | apply Kd.R_alloc | apply Kd.R_drewN | apply Kd.R_drew)); exact HO527.out) hb); have n2_ := Aside0.mk (Kd.R_lower (Kd.R_newB ho21 (by (with_reducible repeat (first | refine blk_drewN ?_ _ | refine blk_drew ?_ | refine blk_alloc ?_ _)); exact BK528.out)) (below_size (by repeat (first | (with_reducible first | exact HB.out | apply below_alloc | apply pw_below_drewN | apply below_drew1 | refine below_set ?_ GE528.out) | exact HB.out)))); have n3_ := bk_ BK528 hb; have n4_ := bs_ HB hb; clear HO524; clear HO527; clear BK528; clear HB; have HO524 := n0_; have HO527 := n1_; have HO533 := n2_; have BK528 := n3_; have HB := n4_; clear n0_ n1_ n2_ n3_ n4_; clear hb ho21; obtain ⟨Ao22, co22, eo22⟩ := Kd.R_slice HO533.out; subst eo22) | ((with_reducible refine gate_callee (f := 22) rfl ?_); refine gl_ (some 29) rfl Try.func22 #[.slice Ao16 y522.length co16, .agg #[.int .i64 5, .string (⟨#[]⟩ : ByteArray), .int .i64 0, .bool false, .int .i64 0, .string (⟨#[]⟩ : ByteArray), .int .i64 0, .string (⟨#[]⟩ : ByteArray), .slice Ao22 y531.length co22], .slice Ao17 y525.length co17] ?_; (with_reducible refine (eval_Row.calls k _ _ y522 5 (⟨#[]⟩ : ByteArray) 0 false 0 (⟨#[]⟩ : ByteArray) 0 (⟨#[]⟩ : ByteArray) _ _ y531 _ _ y525 t534 t535 _ ?side1 ?side2 ?side3 ?side4 ?side5 ?side6 A2.out).mono ?_); (case side1 => repeat (first | exact (Kd.R_reads' HO524.out).2.2 | (with_reducible refine Kd.C_alloc ?_ _) | (with_reducible refine Kd.C_drewN ?_ _) | (with_reducible refine Kd.C_drew ?_))); (case side2 => exact (Kd.R_reads' HO524.out).2.1); (case side3 => repeat (first | exact (Kd.R_reads' HO533.out).2.2 | (with_reducible refine Kd.C_alloc ?_ _) | (with_reducible refine Kd.C_drewN ?_ _) | (with_reducible refine Kd.C_drew ?_))); (case side4 => exact (Kd.R_reads' HO533.out).2.1); (case side5 => repeat (first | exact (Kd.R_reads' HO527.out).2.2 | (with_reducible refine Kd.C_alloc ?_ _) | (with_reducible refine Kd.C_drewN ?_ _) | (with_reducible refine Kd.C_drew ?_))); (case side6 => exact (Kd.R_reads' HO527.out).2.1); rintro e w23 ⟨rfl, hb⟩; refine ⟨_, rfl, ?_⟩; have n0_ := Aside0.mk (Kd.R_below (by (with_reducible repeat (first | apply Kd.R_alloc | apply Kd.R_drewN | apply Kd.R_drew)); exact HO524.out) hb); have n1_ := Aside0.mk (Kd.R_below (by (with_reducible repeat (first | apply Kd.R_alloc | apply Kd.R_drewN | apply Kd.R_drew)); exact HO527.out) hb); have n2_ := Aside0.mk (Kd.R_below (by (with_reducible repeat (first | apply Kd.R_alloc | apply Kd.R_drewN | apply Kd.R_drew)); exact HO533.out) hb); have n3_ := bk_ BK528 hb; have n4_ := bs_ HB hb; clear HO524; clear HO527; clear HO533; clear BK528; clear HB; have HO524 := n0_; have HO527 := n1_; have HO533 := n2_; have BK528 := n3_; have HB := n4_; clear n0_ n1_ n2_ n3_ n4_; (try clear hb); (try clear hb2); (try clear hk); (try clear hi)) | ((with_reducible refine gate_callee (f := 22) rfl ?_); refine gl_ (some 36) rfl Try.func22 #[.slice Ao16 y522.length co16, .agg #[.int .i64 3, .string (⟨#[97]⟩ : ByteArray), .int .i64 0, .bool false, .int .i64 0, .string (⟨#[]⟩ : ByteArray), .int .i64 0, .string (⟨#[]⟩ : ByteArray), .slice none 0 0], .slice Ao17 y525.length co17] ?_; (refine (eval_Row.calls k _ _ y522 3 (⟨#[97]⟩ : ByteArray) 0 false 0 (⟨#[]⟩ : ByteArray) 0 (⟨#[]⟩ : ByteArray) _ _ ([] : List (S27)) _ _ y525 t536 t537 _ ?side1 ?side2 ?side3 ?side4 ?side5 ?side6 A3.out).mono ?_); (case side1 => repeat (first | exact (Kd.R_reads' HO524.out).2.2 | (with_reducible refine Kd.C_alloc ?_ _) | (with_reducible refine Kd.C_drewN ?_ _) | (with_reducible refine Kd.C_drew ?_))); (case side2 => exact (Kd.R_reads' HO524.out).2.1); (case side3 => exact Kd.C_nil _ _); (case side4 => exact Nat.le_refl _); (case side5 => repeat (first | exact (Kd.R_reads' HO527.out).2.2 | (with_reducible refine Kd.C_alloc ?_ _) | (with_reducible refine Kd.C_drewN ?_ _) | (with_reducible refine Kd.C_drew ?_))); (case side6 => exact (Kd.R_reads' HO527.out).2.1); rintro e w24 ⟨rfl, hb⟩; refine ⟨_, rfl, ?_⟩; have n0_ := Aside0.mk (Kd.R_below (by (with_reducible repeat (first | apply Kd.R_alloc | apply Kd.R_drewN | apply Kd.R_drew)); exact HO524.out) hb); have n1_ := Aside0.mk (Kd.R_below (by (with_reducible repeat (first | apply Kd.R_alloc | apply Kd.R_drewN | apply Kd.R_drew)); exact HO527.out) hb); have n2_ := Aside0.mk (Kd.R_below (by (with_reducible repeat (first | apply Kd.R_alloc | apply Kd.R_drewN | apply Kd.R_drew)); exact HO533.out) hb); have n3_ := bk_ BK528 hb; have n4_ := bs_ HB hb; clear HO524; clear HO527; clear HO533; clear BK528; clear HB; have HO524 := n0_; have HO527 := n1_; have HO533 := n2_; have BK528 := n3_; have HB := n4_; clear n0_ n1_ n2_ n3_ n4_; (try clear hb); (try clear hb2); (try clear hk); (try clear hi)) | ((with_reducible refine gate_callee (f := 23) rfl ?_); refine gl_ (some 40) rfl Try.func23 #[.int .i64 t530] ?_; (with_reducible refine (firkinlaw20_num.calls t530 t538 _ A4.out).mono ?_); rintro e w' ⟨rfl, ⟨nd, rfl⟩⟩; refine ⟨_, rfl, ?_⟩) | ((with_reducible refine gate_callee (f := 23) rfl ?_); refine gl_ (some 42) rfl Try.func23 #[.int .i64 t535] ?_; (with_reducible refine (firkinlaw20_num.calls t535 t539 _ A5.out).mono ?_); rintro e w' ⟨rfl, ⟨nd, rfl⟩⟩; refine ⟨_, rfl, ?_⟩) | ((with_reducible refine gate_callee (f := 23) rfl ?_); refine gl_ (some 45) rfl Try.func23 #[.int .i64 t537] ?_; (with_reducible refine (firkinlaw20_num.calls t537 t540 _ A6.out).mono ?_); rintro e w' ⟨rfl, ⟨nd, rfl⟩⟩; refine ⟨_, rfl, ?_⟩))
    go_ret
    exact en_ HB
   ·rw [if_neg c9] at H
    have c9b0 : (t534 == 2) = false := beq_eq_false_iff_ne.mpr c9
    have c9b1 : (t534 != 2) = true := bne_iff_ne.mpr c9
    obtain rfl := Option.some.inj H
    go_enter Try.func21, Try.ntmps21
    go_wp2_with (first | ((with_reducible refine gate_dst (N := 11) rfl ?_); refine Kd.R_lit k64 _ 64 ?hg (N := 11) ?hd (xs := ([(⟨(⟨#[97]⟩ : ByteArray), 1, true⟩ : S64)] : List (S64))) (inner := [.string (⟨#[97]⟩ : ByteArray), .int .i64 1, .bool true]) (ok := fun _ => True) (okp := fun _ => True) ?hr ?hp (fun _ hk => hk) trivial (Below.refl _ _) (Nat.le_refl _) (by simp) ?_; (case hd => rfl); (case hg => rfl); (case hr => first | (go_simp; done) | (go_simp; rfl)); (case hp => exact (Reps.c3 (show Kd.M k64 _ _ _ (⟨(⟨#[97]⟩ : ByteArray), 1, true⟩ : S64) [.string (⟨#[97]⟩ : ByteArray), .int .i64 1, .bool true] from (k64_mkM _ _ _ (⟨(⟨#[97]⟩ : ByteArray), 1, true⟩ : S64) )) (Reps.none _ _))); intro v523 w25 ho26 hb hg_ hnew_; clear hg_ hnew_; (first | rw [← Ny522.out] at ho26 | (simp only [Int.reduceToNat] at ho26; rw [← Ny522.out] at ho26)); have HO524 := Aside0.mk (Kd.R_lower ho26 (below_size (by repeat (first | (with_reducible first | exact HB.out | apply below_alloc | apply pw_below_drewN | apply below_drew1) | exact HB.out)))); replace HB := bs_ HB hb; clear hb ho26) | ((with_reducible refine gate_dst (N := 13) rfl ?_); refine Kd.R_lit k24 _ 24 ?hg (N := 13) ?hd (xs := ([(⟨true, 0, (⟨#[]⟩ : ByteArray)⟩ : S24)] : List (S24))) (inner := [.bool true, .int .i64 0, .string (⟨#[]⟩ : ByteArray)]) (ok := fun _ => True) (okp := fun _ => True) ?hr ?hp (fun _ hk => hk) trivial (Below.refl _ _) (Nat.le_refl _) (by simp) ?_; (case hd => rfl); (case hg => rfl); (case hr => first | (go_simp; done) | (go_simp; rfl)); (case hp => exact (Reps.c3 (show Kd.M k24 _ _ _ (⟨true, 0, (⟨#[]⟩ : ByteArray)⟩ : S24) [.bool true, .int .i64 0, .string (⟨#[]⟩ : ByteArray)] from (k24_mkM _ _ _ (⟨true, 0, (⟨#[]⟩ : ByteArray)⟩ : S24) )) (Reps.none _ _))); intro v526 w27 ho28 hb hg_ hnew_; clear hg_ hnew_; (first | rw [← Ny525.out] at ho28 | (simp only [Int.reduceToNat] at ho28; rw [← Ny525.out] at ho28)); have n0_ := Aside0.mk (Kd.R_below (by (with_reducible repeat (first | apply Kd.R_alloc | apply Kd.R_drewN | apply Kd.R_drew)); exact HO524.out) hb); have n1_ := Aside0.mk (Kd.R_lower ho28 (below_size (by repeat (first | (with_reducible first | exact HB.out | apply below_alloc | apply pw_below_drewN | apply below_drew1) | exact HB.out)))); have n2_ := bs_ HB hb; clear HO524; clear HB; have HO524 := n0_; have HO527 := n1_; have HB := n2_; clear n0_ n1_ n2_; clear hb ho28) | (refine bx_ (N := 3) (cs := #[.int .i64 0, .string (⟨#[]⟩ : ByteArray), .int .i64 0, .bool false, .int .i64 0, .string (⟨#[]⟩ : ByteArray), .int .i64 0, .string (⟨#[]⟩ : ByteArray), .slice none 0 0]) (t := 27) ?_; intro gb528 hg w29 hbox hb; have n0_ := Aside0.mk (Kd.R_below (by (with_reducible repeat (first | apply Kd.R_alloc | apply Kd.R_drewN | apply Kd.R_drew)); exact HO524.out) hb); have n1_ := Aside0.mk (Kd.R_below (by (with_reducible repeat (first | apply Kd.R_alloc | apply Kd.R_drewN | apply Kd.R_drew)); exact HO527.out) hb); have n2_ := bs_ HB hb; have n3_ := Aside0.mk (hbox); have n4_ := ge_ HB hg; have n5_ := ge_ HB hg; clear HO524; clear HO527; clear HB; have HO524 := n0_; have HO527 := n1_; have HB := n2_; have BK528 := n3_; have GW528 := n4_; have GE528 := n5_; clear n0_ n1_ n2_ n3_ n4_ n5_; clear hb hbox hg; obtain ⟨C30_0, C30_1, C30_2, C30_3, C30_4, C30_5, C30_6, C30_7, C30_8⟩ := zc9_ BK528.out; obtain ⟨F30_0, F30_1, F30_2, F30_3, F30_4, F30_5, F30_6, F30_7, F30_8⟩ := zf9_ BK528.out; obtain ⟨Ao31, co31, eo31⟩ := Kd.R_slice HO524.out; subst eo31; obtain ⟨Ao32, co32, eo32⟩ := Kd.R_slice HO527.out; subst eo32) | ((with_reducible refine gate_callee (f := 22) rfl ?_); refine gl_ (some 20) rfl Try.func22 #[.slice Ao31 y522.length co31, .agg #[.int .i64 2, .string (⟨#[97]⟩ : ByteArray), .int .i64 1, .bool false, .int .i64 5, .string (⟨#[]⟩ : ByteArray), .int .i64 1, .string (⟨#[]⟩ : ByteArray), .slice none 0 0], .slice Ao32 y525.length co32] ?_; (refine (eval_Row.calls k _ _ y522 2 (⟨#[97]⟩ : ByteArray) 1 false 5 (⟨#[]⟩ : ByteArray) 1 (⟨#[]⟩ : ByteArray) _ _ ([] : List (S27)) _ _ y525 t529 t530 _ ?side1 ?side2 ?side3 ?side4 ?side5 ?side6 A1.out).mono ?_); (case side1 => refine (Kd.R_reads' (e := 64) (base := w.heap.size) (ok := fun k_ => True) (n := y522.length) (c := co31) ?_).2.2; exact (by (with_reducible repeat (first | apply Kd.R_alloc | apply Kd.R_drewN | apply Kd.R_drew)); exact (Kd.R_mono (Kd.R_far (p := ⟨gb528, 8, none⟩) (Kd.R_far (p := ⟨gb528, 7, none⟩) (Kd.R_far (p := ⟨gb528, 6, none⟩) (Kd.R_far (p := ⟨gb528, 5, none⟩) (Kd.R_far (p := ⟨gb528, 4, none⟩) (Kd.R_far (p := ⟨gb528, 3, none⟩) (Kd.R_far (p := ⟨gb528, 2, none⟩) (Kd.R_far (p := ⟨gb528, 1, none⟩) (Kd.R_far (p := ⟨gb528, 0, none⟩) (Kd.R_types HO524.out BK528.out (by decide)) (fun _ hk => hk.2) (.int .i64 2)) (fun _ hk => hk.2) (.string (⟨#[97]⟩ : ByteArray))) (fun _ hk => hk.2) (.int .i64 1)) (fun _ hk => hk.2) (.bool false)) (fun _ hk => hk.2) (.int .i64 5)) (fun _ hk => hk.2) (.string (⟨#[]⟩ : ByteArray))) (fun _ hk => hk.2) (.int .i64 1)) (fun _ hk => hk.2) (.string (⟨#[]⟩ : ByteArray))) (fun _ hk => hk.2) (.slice none 0 0)) (fun _ h_ => h_.1)))); (case side2 => exact (Kd.R_reads' HO524.out).2.1); (case side3 => exact Kd.C_nil _ _); (case side4 => exact Nat.le_refl _); (case side5 => refine (Kd.R_reads' (e := 24) (base := w.heap.size) (ok := fun k_ => True) (n := y525.length) (c := co32) ?_).2.2; exact (by (with_reducible repeat (first | apply Kd.R_alloc | apply Kd.R_drewN | apply Kd.R_drew)); exact (Kd.R_mono (Kd.R_far (p := ⟨gb528, 8, none⟩) (Kd.R_far (p := ⟨gb528, 7, none⟩) (Kd.R_far (p := ⟨gb528, 6, none⟩) (Kd.R_far (p := ⟨gb528, 5, none⟩) (Kd.R_far (p := ⟨gb528, 4, none⟩) (Kd.R_far (p := ⟨gb528, 3, none⟩) (Kd.R_far (p := ⟨gb528, 2, none⟩) (Kd.R_far (p := ⟨gb528, 1, none⟩) (Kd.R_far (p := ⟨gb528, 0, none⟩) (Kd.R_types HO527.out BK528.out (by decide)) (fun _ hk => hk.2) (.int .i64 2)) (fun _ hk => hk.2) (.string (⟨#[97]⟩ : ByteArray))) (fun _ hk => hk.2) (.int .i64 1)) (fun _ hk => hk.2) (.bool false)) (fun _ hk => hk.2) (.int .i64 5)) (fun _ hk => hk.2) (.string (⟨#[]⟩ : ByteArray))) (fun _ hk => hk.2) (.int .i64 1)) (fun _ hk => hk.2) (.string (⟨#[]⟩ : ByteArray))) (fun _ hk => hk.2) (.slice none 0 0)) (fun _ h_ => h_.1)))); (case side6 => exact (Kd.R_reads' HO527.out).2.1); rintro e w33 ⟨rfl, hb⟩; refine ⟨_, rfl, ?_⟩; have n0_ := Aside0.mk (Kd.R_below (by (with_reducible repeat (first | apply Kd.R_alloc | apply Kd.R_drewN | apply Kd.R_drew)); exact (Kd.R_mono (Kd.R_far (p := ⟨gb528, 8, none⟩) (Kd.R_far (p := ⟨gb528, 7, none⟩) (Kd.R_far (p := ⟨gb528, 6, none⟩) (Kd.R_far (p := ⟨gb528, 5, none⟩) (Kd.R_far (p := ⟨gb528, 4, none⟩) (Kd.R_far (p := ⟨gb528, 3, none⟩) (Kd.R_far (p := ⟨gb528, 2, none⟩) (Kd.R_far (p := ⟨gb528, 1, none⟩) (Kd.R_far (p := ⟨gb528, 0, none⟩) (Kd.R_types HO524.out BK528.out (by decide)) (fun _ hk => hk.2) (.int .i64 2)) (fun _ hk => hk.2) (.string (⟨#[97]⟩ : ByteArray))) (fun _ hk => hk.2) (.int .i64 1)) (fun _ hk => hk.2) (.bool false)) (fun _ hk => hk.2) (.int .i64 5)) (fun _ hk => hk.2) (.string (⟨#[]⟩ : ByteArray))) (fun _ hk => hk.2) (.int .i64 1)) (fun _ hk => hk.2) (.string (⟨#[]⟩ : ByteArray))) (fun _ hk => hk.2) (.slice none 0 0)) (fun _ h_ => h_.1))) hb); have n1_ := Aside0.mk (Kd.R_below (by (with_reducible repeat (first | apply Kd.R_alloc | apply Kd.R_drewN | apply Kd.R_drew)); exact (Kd.R_mono (Kd.R_far (p := ⟨gb528, 8, none⟩) (Kd.R_far (p := ⟨gb528, 7, none⟩) (Kd.R_far (p := ⟨gb528, 6, none⟩) (Kd.R_far (p := ⟨gb528, 5, none⟩) (Kd.R_far (p := ⟨gb528, 4, none⟩) (Kd.R_far (p := ⟨gb528, 3, none⟩) (Kd.R_far (p := ⟨gb528, 2, none⟩) (Kd.R_far (p := ⟨gb528, 1, none⟩) (Kd.R_far (p := ⟨gb528, 0, none⟩) (Kd.R_types HO527.out BK528.out (by decide)) (fun _ hk => hk.2) (.int .i64 2)) (fun _ hk => hk.2) (.string (⟨#[97]⟩ : ByteArray))) (fun _ hk => hk.2) (.int .i64 1)) (fun _ hk => hk.2) (.bool false)) (fun _ hk => hk.2) (.int .i64 5)) (fun _ hk => hk.2) (.string (⟨#[]⟩ : ByteArray))) (fun _ hk => hk.2) (.int .i64 1)) (fun _ hk => hk.2) (.string (⟨#[]⟩ : ByteArray))) (fun _ hk => hk.2) (.slice none 0 0)) (fun _ h_ => h_.1))) hb); have n2_ := Aside0.mk (blk_below (g := gb528) (o := .cells #[.int .i64 2, .string (⟨#[97]⟩ : ByteArray), .int .i64 1, .bool false, .int .i64 5, .string (⟨#[]⟩ : ByteArray), .int .i64 1, .string (⟨#[]⟩ : ByteArray), .slice none 0 0] 27 (0, 0)) (by (with_reducible repeat (first | refine blk_drewN ?_ _ | refine blk_drew ?_ | refine blk_alloc ?_ _)); refine blk_put (cs := #[.int .i64 2, .string (⟨#[97]⟩ : ByteArray), .int .i64 1, .bool false, .int .i64 5, .string (⟨#[]⟩ : ByteArray), .int .i64 1, .string (⟨#[]⟩ : ByteArray), .slice none 0 0]) ?_ 8 _ rfl; (with_reducible repeat (first | refine blk_drewN ?_ _ | refine blk_drew ?_ | refine blk_alloc ?_ _)); refine blk_put (cs := #[.int .i64 2, .string (⟨#[97]⟩ : ByteArray), .int .i64 1, .bool false, .int .i64 5, .string (⟨#[]⟩ : ByteArray), .int .i64 1, .string (⟨#[]⟩ : ByteArray), .slice none 0 0]) ?_ 7 _ rfl; (with_reducible repeat (first | refine blk_drewN ?_ _ | refine blk_drew ?_ | refine blk_alloc ?_ _)); refine blk_put (cs := #[.int .i64 2, .string (⟨#[97]⟩ : ByteArray), .int .i64 1, .bool false, .int .i64 5, .string (⟨#[]⟩ : ByteArray), .int .i64 0, .string (⟨#[]⟩ : ByteArray), .slice none 0 0]) ?_ 6 _ rfl; (with_reducible repeat (first | refine blk_drewN ?_ _ | refine blk_drew ?_ | refine blk_alloc ?_ _)); refine blk_put (cs := #[.int .i64 2, .string (⟨#[97]⟩ : ByteArray), .int .i64 1, .bool false, .int .i64 5, .string (⟨#[]⟩ : ByteArray), .int .i64 0, .string (⟨#[]⟩ : ByteArray), .slice none 0 0]) ?_ 5 _ rfl; (with_reducible repeat (first | refine blk_drewN ?_ _ | refine blk_drew ?_ | refine blk_alloc ?_ _)); refine blk_put (cs := #[.int .i64 2, .string (⟨#[97]⟩ : ByteArray), .int .i64 1, .bool false, .int .i64 0, .string (⟨#[]⟩ : ByteArray), .int .i64 0, .string (⟨#[]⟩ : ByteArray), .slice none 0 0]) ?_ 4 _ rfl; (with_reducible repeat (first | refine blk_drewN ?_ _ | refine blk_drew ?_ | refine blk_alloc ?_ _)); refine blk_put (cs := #[.int .i64 2, .string (⟨#[97]⟩ : ByteArray), .int .i64 1, .bool false, .int .i64 0, .string (⟨#[]⟩ : ByteArray), .int .i64 0, .string (⟨#[]⟩ : ByteArray), .slice none 0 0]) ?_ 3 _ rfl; (with_reducible repeat (first | refine blk_drewN ?_ _ | refine blk_drew ?_ | refine blk_alloc ?_ _)); refine blk_put (cs := #[.int .i64 2, .string (⟨#[97]⟩ : ByteArray), .int .i64 0, .bool false, .int .i64 0, .string (⟨#[]⟩ : ByteArray), .int .i64 0, .string (⟨#[]⟩ : ByteArray), .slice none 0 0]) ?_ 2 _ rfl; (with_reducible repeat (first | refine blk_drewN ?_ _ | refine blk_drew ?_ | refine blk_alloc ?_ _)); refine blk_put (cs := #[.int .i64 2, .string (⟨#[]⟩ : ByteArray), .int .i64 0, .bool false, .int .i64 0, .string (⟨#[]⟩ : ByteArray), .int .i64 0, .string (⟨#[]⟩ : ByteArray), .slice none 0 0]) ?_ 1 _ rfl; (with_reducible repeat (first | refine blk_drewN ?_ _ | refine blk_drew ?_ | refine blk_alloc ?_ _)); refine blk_put (cs := #[.int .i64 0, .string (⟨#[]⟩ : ByteArray), .int .i64 0, .bool false, .int .i64 0, .string (⟨#[]⟩ : ByteArray), .int .i64 0, .string (⟨#[]⟩ : ByteArray), .slice none 0 0]) ?_ 0 _ rfl; (with_reducible repeat (first | refine blk_drewN ?_ _ | refine blk_drew ?_ | refine blk_alloc ?_ _)); exact BK528.out) hb); have n3_ := bs_ HB hb; clear HO524; clear HO527; clear BK528; clear HB; have HO524 := n0_; have HO527 := n1_; have BK528 := n2_; have HB := n3_; clear n0_ n1_ n2_ n3_; (try clear hb); (try clear hb2); (try clear hk); (try clear hi); obtain ⟨C34_0, C34_1, C34_2, C34_3, C34_4, C34_5, C34_6, C34_7, C34_8⟩ := zc9_ BK528.out; obtain ⟨F34_0, F34_1, F34_2, F34_3, F34_4, F34_5, F34_6, F34_7, F34_8⟩ := zf9_ BK528.out) | ((with_reducible refine gate_dst (N := 26) rfl ?_); refine Kd.R_lit k27 _ 27 ?hg (N := 26) ?hd (xs := ([(⟨2, (⟨#[97]⟩ : ByteArray), 1, (⟨false, 5, (⟨#[]⟩ : ByteArray)⟩ : S24), 1, (⟨#[]⟩ : ByteArray), ([] : List (S27))⟩ : S27)] : List (S27))) (inner := [.int .i64 2, .string (⟨#[97]⟩ : ByteArray), .int .i64 1, .bool false, .int .i64 5, .string (⟨#[]⟩ : ByteArray), .int .i64 1, .string (⟨#[]⟩ : ByteArray), .slice none 0 0]) (ok := fun _ => True) (okp := fun _ => True) ?hr ?hp (fun _ hk => hk) trivial (Below.refl _ _) (Nat.le_refl _) (by simp) ?_; (case hd => rfl); (case hg => rfl); (case hr => first | (go_simp; done) | (go_simp; rfl)); (case hp => exact (Reps.c9 (show Kd.M k27 _ _ _ (⟨2, (⟨#[97]⟩ : ByteArray), 1, (⟨false, 5, (⟨#[]⟩ : ByteArray)⟩ : S24), 1, (⟨#[]⟩ : ByteArray), ([] : List (S27))⟩ : S27) [.int .i64 2, .string (⟨#[97]⟩ : ByteArray), .int .i64 1, .bool false, .int .i64 5, .string (⟨#[]⟩ : ByteArray), .int .i64 1, .string (⟨#[]⟩ : ByteArray), .slice none 0 0] from (k27_mkM _ _ _ (⟨2, (⟨#[97]⟩ : ByteArray), 1, (⟨false, 5, (⟨#[]⟩ : ByteArray)⟩ : S24), 1, (⟨#[]⟩ : ByteArray), ([] : List (S27))⟩ : S27) (Kd.R_nil _ _ _ _ _))) (Reps.none _ _))); intro v532 w35 ho36 hb hg_ hnew_; clear hg_ hnew_; (first | rw [← Ny531.out] at ho36 | (simp only [Int.reduceToNat] at ho36; rw [← Ny531.out] at ho36)); have n0_ := Aside0.mk (Kd.R_below (by (with_reducible repeat (first | apply Kd.R_alloc | apply Kd.R_drewN | apply Kd.R_drew)); exact HO524.out) hb); have n1_ := Aside0.mk (Kd.R_below (by (with_reducible repeat (first | apply Kd.R_alloc | apply Kd.R_drewN | apply Kd.R_drew)); exact HO527.out) hb); have n2_ := Aside0.mk (Kd.R_lower (Kd.R_newB ho36 (by (with_reducible repeat (first | refine blk_drewN ?_ _ | refine blk_drew ?_ | refine blk_alloc ?_ _)); exact BK528.out)) (below_size (by repeat (first | (with_reducible first | exact HB.out | apply below_alloc | apply pw_below_drewN | apply below_drew1 | refine below_set ?_ GE528.out) | exact HB.out)))); have n3_ := bk_ BK528 hb; have n4_ := bs_ HB hb; clear HO524; clear HO527; clear BK528; clear HB; have HO524 := n0_; have HO527 := n1_; have HO533 := n2_; have BK528 := n3_; have HB := n4_; clear n0_ n1_ n2_ n3_ n4_; clear hb ho36; obtain ⟨Ao37, co37, eo37⟩ := Kd.R_slice HO533.out; subst eo37) | ((with_reducible refine gate_callee (f := 22) rfl ?_); refine gl_ (some 29) rfl Try.func22 #[.slice Ao31 y522.length co31, .agg #[.int .i64 5, .string (⟨#[]⟩ : ByteArray), .int .i64 0, .bool false, .int .i64 0, .string (⟨#[]⟩ : ByteArray), .int .i64 0, .string (⟨#[]⟩ : ByteArray), .slice Ao37 y531.length co37], .slice Ao32 y525.length co32] ?_; (with_reducible refine (eval_Row.calls k _ _ y522 5 (⟨#[]⟩ : ByteArray) 0 false 0 (⟨#[]⟩ : ByteArray) 0 (⟨#[]⟩ : ByteArray) _ _ y531 _ _ y525 t534 t535 _ ?side1 ?side2 ?side3 ?side4 ?side5 ?side6 A2.out).mono ?_); (case side1 => repeat (first | exact (Kd.R_reads' HO524.out).2.2 | (with_reducible refine Kd.C_alloc ?_ _) | (with_reducible refine Kd.C_drewN ?_ _) | (with_reducible refine Kd.C_drew ?_))); (case side2 => exact (Kd.R_reads' HO524.out).2.1); (case side3 => repeat (first | exact (Kd.R_reads' HO533.out).2.2 | (with_reducible refine Kd.C_alloc ?_ _) | (with_reducible refine Kd.C_drewN ?_ _) | (with_reducible refine Kd.C_drew ?_))); (case side4 => exact (Kd.R_reads' HO533.out).2.1); (case side5 => repeat (first | exact (Kd.R_reads' HO527.out).2.2 | (with_reducible refine Kd.C_alloc ?_ _) | (with_reducible refine Kd.C_drewN ?_ _) | (with_reducible refine Kd.C_drew ?_))); (case side6 => exact (Kd.R_reads' HO527.out).2.1); rintro e w38 ⟨rfl, hb⟩; refine ⟨_, rfl, ?_⟩; have n0_ := Aside0.mk (Kd.R_below (by (with_reducible repeat (first | apply Kd.R_alloc | apply Kd.R_drewN | apply Kd.R_drew)); exact HO524.out) hb); have n1_ := Aside0.mk (Kd.R_below (by (with_reducible repeat (first | apply Kd.R_alloc | apply Kd.R_drewN | apply Kd.R_drew)); exact HO527.out) hb); have n2_ := Aside0.mk (Kd.R_below (by (with_reducible repeat (first | apply Kd.R_alloc | apply Kd.R_drewN | apply Kd.R_drew)); exact HO533.out) hb); have n3_ := bk_ BK528 hb; have n4_ := bs_ HB hb; clear HO524; clear HO527; clear HO533; clear BK528; clear HB; have HO524 := n0_; have HO527 := n1_; have HO533 := n2_; have BK528 := n3_; have HB := n4_; clear n0_ n1_ n2_ n3_ n4_; (try clear hb); (try clear hb2); (try clear hk); (try clear hi)) | ((with_reducible refine gate_callee (f := 22) rfl ?_); refine gl_ (some 36) rfl Try.func22 #[.slice Ao31 y522.length co31, .agg #[.int .i64 3, .string (⟨#[97]⟩ : ByteArray), .int .i64 0, .bool false, .int .i64 0, .string (⟨#[]⟩ : ByteArray), .int .i64 0, .string (⟨#[]⟩ : ByteArray), .slice none 0 0], .slice Ao32 y525.length co32] ?_; (refine (eval_Row.calls k _ _ y522 3 (⟨#[97]⟩ : ByteArray) 0 false 0 (⟨#[]⟩ : ByteArray) 0 (⟨#[]⟩ : ByteArray) _ _ ([] : List (S27)) _ _ y525 t536 t537 _ ?side1 ?side2 ?side3 ?side4 ?side5 ?side6 A3.out).mono ?_); (case side1 => repeat (first | exact (Kd.R_reads' HO524.out).2.2 | (with_reducible refine Kd.C_alloc ?_ _) | (with_reducible refine Kd.C_drewN ?_ _) | (with_reducible refine Kd.C_drew ?_))); (case side2 => exact (Kd.R_reads' HO524.out).2.1); (case side3 => exact Kd.C_nil _ _); (case side4 => exact Nat.le_refl _); (case side5 => repeat (first | exact (Kd.R_reads' HO527.out).2.2 | (with_reducible refine Kd.C_alloc ?_ _) | (with_reducible refine Kd.C_drewN ?_ _) | (with_reducible refine Kd.C_drew ?_))); (case side6 => exact (Kd.R_reads' HO527.out).2.1); rintro e w39 ⟨rfl, hb⟩; refine ⟨_, rfl, ?_⟩; have n0_ := Aside0.mk (Kd.R_below (by (with_reducible repeat (first | apply Kd.R_alloc | apply Kd.R_drewN | apply Kd.R_drew)); exact HO524.out) hb); have n1_ := Aside0.mk (Kd.R_below (by (with_reducible repeat (first | apply Kd.R_alloc | apply Kd.R_drewN | apply Kd.R_drew)); exact HO527.out) hb); have n2_ := Aside0.mk (Kd.R_below (by (with_reducible repeat (first | apply Kd.R_alloc | apply Kd.R_drewN | apply Kd.R_drew)); exact HO533.out) hb); have n3_ := bk_ BK528 hb; have n4_ := bs_ HB hb; clear HO524; clear HO527; clear HO533; clear BK528; clear HB; have HO524 := n0_; have HO527 := n1_; have HO533 := n2_; have BK528 := n3_; have HB := n4_; clear n0_ n1_ n2_ n3_ n4_; (try clear hb); (try clear hb2); (try clear hk); (try clear hi)) | ((with_reducible refine gate_callee (f := 23) rfl ?_); refine gl_ (some 40) rfl Try.func23 #[.int .i64 t530] ?_; (with_reducible refine (firkinlaw20_num.calls t530 t538 _ A4.out).mono ?_); rintro e w' ⟨rfl, ⟨nd, rfl⟩⟩; refine ⟨_, rfl, ?_⟩) | ((with_reducible refine gate_callee (f := 23) rfl ?_); refine gl_ (some 42) rfl Try.func23 #[.int .i64 t535] ?_; (with_reducible refine (firkinlaw20_num.calls t535 t539 _ A5.out).mono ?_); rintro e w' ⟨rfl, ⟨nd, rfl⟩⟩; refine ⟨_, rfl, ?_⟩) | ((with_reducible refine gate_callee (f := 23) rfl ?_); refine gl_ (some 45) rfl Try.func23 #[.int .i64 t537] ?_; (with_reducible refine (firkinlaw20_num.calls t537 t540 _ A6.out).mono ?_); rintro e w' ⟨rfl, ⟨nd, rfl⟩⟩; refine ⟨_, rfl, ?_⟩))
    go_ret
    exact en_ HB
  ·rw [if_neg c8] at H
   have c8b0 : (t529 == 2) = false := beq_eq_false_iff_ne.mpr c8
   have c8b1 : (t529 != 2) = true := bne_iff_ne.mpr c8
   obtain rfl := Option.some.inj H
   go_enter Try.func21, Try.ntmps21
   go_wp2_with (first | ((with_reducible refine gate_dst (N := 11) rfl ?_); refine Kd.R_lit k64 _ 64 ?hg (N := 11) ?hd (xs := ([(⟨(⟨#[97]⟩ : ByteArray), 1, true⟩ : S64)] : List (S64))) (inner := [.string (⟨#[97]⟩ : ByteArray), .int .i64 1, .bool true]) (ok := fun _ => True) (okp := fun _ => True) ?hr ?hp (fun _ hk => hk) trivial (Below.refl _ _) (Nat.le_refl _) (by simp) ?_; (case hd => rfl); (case hg => rfl); (case hr => first | (go_simp; done) | (go_simp; rfl)); (case hp => exact (Reps.c3 (show Kd.M k64 _ _ _ (⟨(⟨#[97]⟩ : ByteArray), 1, true⟩ : S64) [.string (⟨#[97]⟩ : ByteArray), .int .i64 1, .bool true] from (k64_mkM _ _ _ (⟨(⟨#[97]⟩ : ByteArray), 1, true⟩ : S64) )) (Reps.none _ _))); intro v523 w40 ho41 hb hg_ hnew_; clear hg_ hnew_; (first | rw [← Ny522.out] at ho41 | (simp only [Int.reduceToNat] at ho41; rw [← Ny522.out] at ho41)); have HO524 := Aside0.mk (Kd.R_lower ho41 (below_size (by repeat (first | (with_reducible first | exact HB.out | apply below_alloc | apply pw_below_drewN | apply below_drew1) | exact HB.out)))); replace HB := bs_ HB hb; clear hb ho41) | ((with_reducible refine gate_dst (N := 13) rfl ?_); refine Kd.R_lit k24 _ 24 ?hg (N := 13) ?hd (xs := ([(⟨true, 0, (⟨#[]⟩ : ByteArray)⟩ : S24)] : List (S24))) (inner := [.bool true, .int .i64 0, .string (⟨#[]⟩ : ByteArray)]) (ok := fun _ => True) (okp := fun _ => True) ?hr ?hp (fun _ hk => hk) trivial (Below.refl _ _) (Nat.le_refl _) (by simp) ?_; (case hd => rfl); (case hg => rfl); (case hr => first | (go_simp; done) | (go_simp; rfl)); (case hp => exact (Reps.c3 (show Kd.M k24 _ _ _ (⟨true, 0, (⟨#[]⟩ : ByteArray)⟩ : S24) [.bool true, .int .i64 0, .string (⟨#[]⟩ : ByteArray)] from (k24_mkM _ _ _ (⟨true, 0, (⟨#[]⟩ : ByteArray)⟩ : S24) )) (Reps.none _ _))); intro v526 w42 ho43 hb hg_ hnew_; clear hg_ hnew_; (first | rw [← Ny525.out] at ho43 | (simp only [Int.reduceToNat] at ho43; rw [← Ny525.out] at ho43)); have n0_ := Aside0.mk (Kd.R_below (by (with_reducible repeat (first | apply Kd.R_alloc | apply Kd.R_drewN | apply Kd.R_drew)); exact HO524.out) hb); have n1_ := Aside0.mk (Kd.R_lower ho43 (below_size (by repeat (first | (with_reducible first | exact HB.out | apply below_alloc | apply pw_below_drewN | apply below_drew1) | exact HB.out)))); have n2_ := bs_ HB hb; clear HO524; clear HB; have HO524 := n0_; have HO527 := n1_; have HB := n2_; clear n0_ n1_ n2_; clear hb ho43) | (refine bx_ (N := 3) (cs := #[.int .i64 0, .string (⟨#[]⟩ : ByteArray), .int .i64 0, .bool false, .int .i64 0, .string (⟨#[]⟩ : ByteArray), .int .i64 0, .string (⟨#[]⟩ : ByteArray), .slice none 0 0]) (t := 27) ?_; intro gb528 hg w44 hbox hb; have n0_ := Aside0.mk (Kd.R_below (by (with_reducible repeat (first | apply Kd.R_alloc | apply Kd.R_drewN | apply Kd.R_drew)); exact HO524.out) hb); have n1_ := Aside0.mk (Kd.R_below (by (with_reducible repeat (first | apply Kd.R_alloc | apply Kd.R_drewN | apply Kd.R_drew)); exact HO527.out) hb); have n2_ := bs_ HB hb; have n3_ := Aside0.mk (hbox); have n4_ := ge_ HB hg; have n5_ := ge_ HB hg; clear HO524; clear HO527; clear HB; have HO524 := n0_; have HO527 := n1_; have HB := n2_; have BK528 := n3_; have GW528 := n4_; have GE528 := n5_; clear n0_ n1_ n2_ n3_ n4_ n5_; clear hb hbox hg; obtain ⟨C45_0, C45_1, C45_2, C45_3, C45_4, C45_5, C45_6, C45_7, C45_8⟩ := zc9_ BK528.out; obtain ⟨F45_0, F45_1, F45_2, F45_3, F45_4, F45_5, F45_6, F45_7, F45_8⟩ := zf9_ BK528.out; obtain ⟨Ao46, co46, eo46⟩ := Kd.R_slice HO524.out; subst eo46; obtain ⟨Ao47, co47, eo47⟩ := Kd.R_slice HO527.out; subst eo47) | ((with_reducible refine gate_callee (f := 22) rfl ?_); refine gl_ (some 20) rfl Try.func22 #[.slice Ao46 y522.length co46, .agg #[.int .i64 2, .string (⟨#[97]⟩ : ByteArray), .int .i64 1, .bool false, .int .i64 5, .string (⟨#[]⟩ : ByteArray), .int .i64 1, .string (⟨#[]⟩ : ByteArray), .slice none 0 0], .slice Ao47 y525.length co47] ?_; (refine (eval_Row.calls k _ _ y522 2 (⟨#[97]⟩ : ByteArray) 1 false 5 (⟨#[]⟩ : ByteArray) 1 (⟨#[]⟩ : ByteArray) _ _ ([] : List (S27)) _ _ y525 t529 t530 _ ?side1 ?side2 ?side3 ?side4 ?side5 ?side6 A1.out).mono ?_); (case side1 => refine (Kd.R_reads' (e := 64) (base := w.heap.size) (ok := fun k_ => True) (n := y522.length) (c := co46) ?_).2.2; exact (by (with_reducible repeat (first | apply Kd.R_alloc | apply Kd.R_drewN | apply Kd.R_drew)); exact (Kd.R_mono (Kd.R_far (p := ⟨gb528, 8, none⟩) (Kd.R_far (p := ⟨gb528, 7, none⟩) (Kd.R_far (p := ⟨gb528, 6, none⟩) (Kd.R_far (p := ⟨gb528, 5, none⟩) (Kd.R_far (p := ⟨gb528, 4, none⟩) (Kd.R_far (p := ⟨gb528, 3, none⟩) (Kd.R_far (p := ⟨gb528, 2, none⟩) (Kd.R_far (p := ⟨gb528, 1, none⟩) (Kd.R_far (p := ⟨gb528, 0, none⟩) (Kd.R_types HO524.out BK528.out (by decide)) (fun _ hk => hk.2) (.int .i64 2)) (fun _ hk => hk.2) (.string (⟨#[97]⟩ : ByteArray))) (fun _ hk => hk.2) (.int .i64 1)) (fun _ hk => hk.2) (.bool false)) (fun _ hk => hk.2) (.int .i64 5)) (fun _ hk => hk.2) (.string (⟨#[]⟩ : ByteArray))) (fun _ hk => hk.2) (.int .i64 1)) (fun _ hk => hk.2) (.string (⟨#[]⟩ : ByteArray))) (fun _ hk => hk.2) (.slice none 0 0)) (fun _ h_ => h_.1)))); (case side2 => exact (Kd.R_reads' HO524.out).2.1); (case side3 => exact Kd.C_nil _ _); (case side4 => exact Nat.le_refl _); (case side5 => refine (Kd.R_reads' (e := 24) (base := w.heap.size) (ok := fun k_ => True) (n := y525.length) (c := co47) ?_).2.2; exact (by (with_reducible repeat (first | apply Kd.R_alloc | apply Kd.R_drewN | apply Kd.R_drew)); exact (Kd.R_mono (Kd.R_far (p := ⟨gb528, 8, none⟩) (Kd.R_far (p := ⟨gb528, 7, none⟩) (Kd.R_far (p := ⟨gb528, 6, none⟩) (Kd.R_far (p := ⟨gb528, 5, none⟩) (Kd.R_far (p := ⟨gb528, 4, none⟩) (Kd.R_far (p := ⟨gb528, 3, none⟩) (Kd.R_far (p := ⟨gb528, 2, none⟩) (Kd.R_far (p := ⟨gb528, 1, none⟩) (Kd.R_far (p := ⟨gb528, 0, none⟩) (Kd.R_types HO527.out BK528.out (by decide)) (fun _ hk => hk.2) (.int .i64 2)) (fun _ hk => hk.2) (.string (⟨#[97]⟩ : ByteArray))) (fun _ hk => hk.2) (.int .i64 1)) (fun _ hk => hk.2) (.bool false)) (fun _ hk => hk.2) (.int .i64 5)) (fun _ hk => hk.2) (.string (⟨#[]⟩ : ByteArray))) (fun _ hk => hk.2) (.int .i64 1)) (fun _ hk => hk.2) (.string (⟨#[]⟩ : ByteArray))) (fun _ hk => hk.2) (.slice none 0 0)) (fun _ h_ => h_.1)))); (case side6 => exact (Kd.R_reads' HO527.out).2.1); rintro e w48 ⟨rfl, hb⟩; refine ⟨_, rfl, ?_⟩; have n0_ := Aside0.mk (Kd.R_below (by (with_reducible repeat (first | apply Kd.R_alloc | apply Kd.R_drewN | apply Kd.R_drew)); exact (Kd.R_mono (Kd.R_far (p := ⟨gb528, 8, none⟩) (Kd.R_far (p := ⟨gb528, 7, none⟩) (Kd.R_far (p := ⟨gb528, 6, none⟩) (Kd.R_far (p := ⟨gb528, 5, none⟩) (Kd.R_far (p := ⟨gb528, 4, none⟩) (Kd.R_far (p := ⟨gb528, 3, none⟩) (Kd.R_far (p := ⟨gb528, 2, none⟩) (Kd.R_far (p := ⟨gb528, 1, none⟩) (Kd.R_far (p := ⟨gb528, 0, none⟩) (Kd.R_types HO524.out BK528.out (by decide)) (fun _ hk => hk.2) (.int .i64 2)) (fun _ hk => hk.2) (.string (⟨#[97]⟩ : ByteArray))) (fun _ hk => hk.2) (.int .i64 1)) (fun _ hk => hk.2) (.bool false)) (fun _ hk => hk.2) (.int .i64 5)) (fun _ hk => hk.2) (.string (⟨#[]⟩ : ByteArray))) (fun _ hk => hk.2) (.int .i64 1)) (fun _ hk => hk.2) (.string (⟨#[]⟩ : ByteArray))) (fun _ hk => hk.2) (.slice none 0 0)) (fun _ h_ => h_.1))) hb); have n1_ := Aside0.mk (Kd.R_below (by (with_reducible repeat (first | apply Kd.R_alloc | apply Kd.R_drewN | apply Kd.R_drew)); exact (Kd.R_mono (Kd.R_far (p := ⟨gb528, 8, none⟩) (Kd.R_far (p := ⟨gb528, 7, none⟩) (Kd.R_far (p := ⟨gb528, 6, none⟩) (Kd.R_far (p := ⟨gb528, 5, none⟩) (Kd.R_far (p := ⟨gb528, 4, none⟩) (Kd.R_far (p := ⟨gb528, 3, none⟩) (Kd.R_far (p := ⟨gb528, 2, none⟩) (Kd.R_far (p := ⟨gb528, 1, none⟩) (Kd.R_far (p := ⟨gb528, 0, none⟩) (Kd.R_types HO527.out BK528.out (by decide)) (fun _ hk => hk.2) (.int .i64 2)) (fun _ hk => hk.2) (.string (⟨#[97]⟩ : ByteArray))) (fun _ hk => hk.2) (.int .i64 1)) (fun _ hk => hk.2) (.bool false)) (fun _ hk => hk.2) (.int .i64 5)) (fun _ hk => hk.2) (.string (⟨#[]⟩ : ByteArray))) (fun _ hk => hk.2) (.int .i64 1)) (fun _ hk => hk.2) (.string (⟨#[]⟩ : ByteArray))) (fun _ hk => hk.2) (.slice none 0 0)) (fun _ h_ => h_.1))) hb); have n2_ := Aside0.mk (blk_below (g := gb528) (o := .cells #[.int .i64 2, .string (⟨#[97]⟩ : ByteArray), .int .i64 1, .bool false, .int .i64 5, .string (⟨#[]⟩ : ByteArray), .int .i64 1, .string (⟨#[]⟩ : ByteArray), .slice none 0 0] 27 (0, 0)) (by (with_reducible repeat (first | refine blk_drewN ?_ _ | refine blk_drew ?_ | refine blk_alloc ?_ _)); refine blk_put (cs := #[.int .i64 2, .string (⟨#[97]⟩ : ByteArray), .int .i64 1, .bool false, .int .i64 5, .string (⟨#[]⟩ : ByteArray), .int .i64 1, .string (⟨#[]⟩ : ByteArray), .slice none 0 0]) ?_ 8 _ rfl; (with_reducible repeat (first | refine blk_drewN ?_ _ | refine blk_drew ?_ | refine blk_alloc ?_ _)); refine blk_put (cs := #[.int .i64 2, .string (⟨#[97]⟩ : ByteArray), .int .i64 1, .bool false, .int .i64 5, .string (⟨#[]⟩ : ByteArray), .int .i64 1, .string (⟨#[]⟩ : ByteArray), .slice none 0 0]) ?_ 7 _ rfl; (with_reducible repeat (first | refine blk_drewN ?_ _ | refine blk_drew ?_ | refine blk_alloc ?_ _)); refine blk_put (cs := #[.int .i64 2, .string (⟨#[97]⟩ : ByteArray), .int .i64 1, .bool false, .int .i64 5, .string (⟨#[]⟩ : ByteArray), .int .i64 0, .string (⟨#[]⟩ : ByteArray), .slice none 0 0]) ?_ 6 _ rfl; (with_reducible repeat (first | refine blk_drewN ?_ _ | refine blk_drew ?_ | refine blk_alloc ?_ _)); refine blk_put (cs := #[.int .i64 2, .string (⟨#[97]⟩ : ByteArray), .int .i64 1, .bool false, .int .i64 5, .string (⟨#[]⟩ : ByteArray), .int .i64 0, .string (⟨#[]⟩ : ByteArray), .slice none 0 0]) ?_ 5 _ rfl; (with_reducible repeat (first | refine blk_drewN ?_ _ | refine blk_drew ?_ | refine blk_alloc ?_ _)); refine blk_put (cs := #[.int .i64 2, .string (⟨#[97]⟩ : ByteArray), .int .i64 1, .bool false, .int .i64 0, .string (⟨#[]⟩ : ByteArray), .int .i64 0, .string (⟨#[]⟩ : ByteArray), .slice none 0 0]) ?_ 4 _ rfl; (with_reducible repeat (first | refine blk_drewN ?_ _ | refine blk_drew ?_ | refine blk_alloc ?_ _)); refine blk_put (cs := #[.int .i64 2, .string (⟨#[97]⟩ : ByteArray), .int .i64 1, .bool false, .int .i64 0, .string (⟨#[]⟩ : ByteArray), .int .i64 0, .string (⟨#[]⟩ : ByteArray), .slice none 0 0]) ?_ 3 _ rfl; (with_reducible repeat (first | refine blk_drewN ?_ _ | refine blk_drew ?_ | refine blk_alloc ?_ _)); refine blk_put (cs := #[.int .i64 2, .string (⟨#[97]⟩ : ByteArray), .int .i64 0, .bool false, .int .i64 0, .string (⟨#[]⟩ : ByteArray), .int .i64 0, .string (⟨#[]⟩ : ByteArray), .slice none 0 0]) ?_ 2 _ rfl; (with_reducible repeat (first | refine blk_drewN ?_ _ | refine blk_drew ?_ | refine blk_alloc ?_ _)); refine blk_put (cs := #[.int .i64 2, .string (⟨#[]⟩ : ByteArray), .int .i64 0, .bool false, .int .i64 0, .string (⟨#[]⟩ : ByteArray), .int .i64 0, .string (⟨#[]⟩ : ByteArray), .slice none 0 0]) ?_ 1 _ rfl; (with_reducible repeat (first | refine blk_drewN ?_ _ | refine blk_drew ?_ | refine blk_alloc ?_ _)); refine blk_put (cs := #[.int .i64 0, .string (⟨#[]⟩ : ByteArray), .int .i64 0, .bool false, .int .i64 0, .string (⟨#[]⟩ : ByteArray), .int .i64 0, .string (⟨#[]⟩ : ByteArray), .slice none 0 0]) ?_ 0 _ rfl; (with_reducible repeat (first | refine blk_drewN ?_ _ | refine blk_drew ?_ | refine blk_alloc ?_ _)); exact BK528.out) hb); have n3_ := bs_ HB hb; clear HO524; clear HO527; clear BK528; clear HB; have HO524 := n0_; have HO527 := n1_; have BK528 := n2_; have HB := n3_; clear n0_ n1_ n2_ n3_; (try clear hb); (try clear hb2); (try clear hk); (try clear hi); obtain ⟨C49_0, C49_1, C49_2, C49_3, C49_4, C49_5, C49_6, C49_7, C49_8⟩ := zc9_ BK528.out; obtain ⟨F49_0, F49_1, F49_2, F49_3, F49_4, F49_5, F49_6, F49_7, F49_8⟩ := zf9_ BK528.out) | ((with_reducible refine gate_dst (N := 26) rfl ?_); refine Kd.R_lit k27 _ 27 ?hg (N := 26) ?hd (xs := ([(⟨2, (⟨#[97]⟩ : ByteArray), 1, (⟨false, 5, (⟨#[]⟩ : ByteArray)⟩ : S24), 1, (⟨#[]⟩ : ByteArray), ([] : List (S27))⟩ : S27)] : List (S27))) (inner := [.int .i64 2, .string (⟨#[97]⟩ : ByteArray), .int .i64 1, .bool false, .int .i64 5, .string (⟨#[]⟩ : ByteArray), .int .i64 1, .string (⟨#[]⟩ : ByteArray), .slice none 0 0]) (ok := fun _ => True) (okp := fun _ => True) ?hr ?hp (fun _ hk => hk) trivial (Below.refl _ _) (Nat.le_refl _) (by simp) ?_; (case hd => rfl); (case hg => rfl); (case hr => first | (go_simp; done) | (go_simp; rfl)); (case hp => exact (Reps.c9 (show Kd.M k27 _ _ _ (⟨2, (⟨#[97]⟩ : ByteArray), 1, (⟨false, 5, (⟨#[]⟩ : ByteArray)⟩ : S24), 1, (⟨#[]⟩ : ByteArray), ([] : List (S27))⟩ : S27) [.int .i64 2, .string (⟨#[97]⟩ : ByteArray), .int .i64 1, .bool false, .int .i64 5, .string (⟨#[]⟩ : ByteArray), .int .i64 1, .string (⟨#[]⟩ : ByteArray), .slice none 0 0] from (k27_mkM _ _ _ (⟨2, (⟨#[97]⟩ : ByteArray), 1, (⟨false, 5, (⟨#[]⟩ : ByteArray)⟩ : S24), 1, (⟨#[]⟩ : ByteArray), ([] : List (S27))⟩ : S27) (Kd.R_nil _ _ _ _ _))) (Reps.none _ _))); intro v532 w50 ho51 hb hg_ hnew_; clear hg_ hnew_; (first | rw [← Ny531.out] at ho51 | (simp only [Int.reduceToNat] at ho51; rw [← Ny531.out] at ho51)); have n0_ := Aside0.mk (Kd.R_below (by (with_reducible repeat (first | apply Kd.R_alloc | apply Kd.R_drewN | apply Kd.R_drew)); exact HO524.out) hb); have n1_ := Aside0.mk (Kd.R_below (by (with_reducible repeat (first | apply Kd.R_alloc | apply Kd.R_drewN | apply Kd.R_drew)); exact HO527.out) hb); have n2_ := Aside0.mk (Kd.R_lower (Kd.R_newB ho51 (by (with_reducible repeat (first | refine blk_drewN ?_ _ | refine blk_drew ?_ | refine blk_alloc ?_ _)); exact BK528.out)) (below_size (by repeat (first | (with_reducible first | exact HB.out | apply below_alloc | apply pw_below_drewN | apply below_drew1 | refine below_set ?_ GE528.out) | exact HB.out)))); have n3_ := bk_ BK528 hb; have n4_ := bs_ HB hb; clear HO524; clear HO527; clear BK528; clear HB; have HO524 := n0_; have HO527 := n1_; have HO533 := n2_; have BK528 := n3_; have HB := n4_; clear n0_ n1_ n2_ n3_ n4_; clear hb ho51; obtain ⟨Ao52, co52, eo52⟩ := Kd.R_slice HO533.out; subst eo52) | ((with_reducible refine gate_callee (f := 22) rfl ?_); refine gl_ (some 29) rfl Try.func22 #[.slice Ao46 y522.length co46, .agg #[.int .i64 5, .string (⟨#[]⟩ : ByteArray), .int .i64 0, .bool false, .int .i64 0, .string (⟨#[]⟩ : ByteArray), .int .i64 0, .string (⟨#[]⟩ : ByteArray), .slice Ao52 y531.length co52], .slice Ao47 y525.length co47] ?_; (with_reducible refine (eval_Row.calls k _ _ y522 5 (⟨#[]⟩ : ByteArray) 0 false 0 (⟨#[]⟩ : ByteArray) 0 (⟨#[]⟩ : ByteArray) _ _ y531 _ _ y525 t534 t535 _ ?side1 ?side2 ?side3 ?side4 ?side5 ?side6 A2.out).mono ?_); (case side1 => repeat (first | exact (Kd.R_reads' HO524.out).2.2 | (with_reducible refine Kd.C_alloc ?_ _) | (with_reducible refine Kd.C_drewN ?_ _) | (with_reducible refine Kd.C_drew ?_))); (case side2 => exact (Kd.R_reads' HO524.out).2.1); (case side3 => repeat (first | exact (Kd.R_reads' HO533.out).2.2 | (with_reducible refine Kd.C_alloc ?_ _) | (with_reducible refine Kd.C_drewN ?_ _) | (with_reducible refine Kd.C_drew ?_))); (case side4 => exact (Kd.R_reads' HO533.out).2.1); (case side5 => repeat (first | exact (Kd.R_reads' HO527.out).2.2 | (with_reducible refine Kd.C_alloc ?_ _) | (with_reducible refine Kd.C_drewN ?_ _) | (with_reducible refine Kd.C_drew ?_))); (case side6 => exact (Kd.R_reads' HO527.out).2.1); rintro e w53 ⟨rfl, hb⟩; refine ⟨_, rfl, ?_⟩; have n0_ := Aside0.mk (Kd.R_below (by (with_reducible repeat (first | apply Kd.R_alloc | apply Kd.R_drewN | apply Kd.R_drew)); exact HO524.out) hb); have n1_ := Aside0.mk (Kd.R_below (by (with_reducible repeat (first | apply Kd.R_alloc | apply Kd.R_drewN | apply Kd.R_drew)); exact HO527.out) hb); have n2_ := Aside0.mk (Kd.R_below (by (with_reducible repeat (first | apply Kd.R_alloc | apply Kd.R_drewN | apply Kd.R_drew)); exact HO533.out) hb); have n3_ := bk_ BK528 hb; have n4_ := bs_ HB hb; clear HO524; clear HO527; clear HO533; clear BK528; clear HB; have HO524 := n0_; have HO527 := n1_; have HO533 := n2_; have BK528 := n3_; have HB := n4_; clear n0_ n1_ n2_ n3_ n4_; (try clear hb); (try clear hb2); (try clear hk); (try clear hi)) | ((with_reducible refine gate_callee (f := 22) rfl ?_); refine gl_ (some 36) rfl Try.func22 #[.slice Ao46 y522.length co46, .agg #[.int .i64 3, .string (⟨#[97]⟩ : ByteArray), .int .i64 0, .bool false, .int .i64 0, .string (⟨#[]⟩ : ByteArray), .int .i64 0, .string (⟨#[]⟩ : ByteArray), .slice none 0 0], .slice Ao47 y525.length co47] ?_; (refine (eval_Row.calls k _ _ y522 3 (⟨#[97]⟩ : ByteArray) 0 false 0 (⟨#[]⟩ : ByteArray) 0 (⟨#[]⟩ : ByteArray) _ _ ([] : List (S27)) _ _ y525 t536 t537 _ ?side1 ?side2 ?side3 ?side4 ?side5 ?side6 A3.out).mono ?_); (case side1 => repeat (first | exact (Kd.R_reads' HO524.out).2.2 | (with_reducible refine Kd.C_alloc ?_ _) | (with_reducible refine Kd.C_drewN ?_ _) | (with_reducible refine Kd.C_drew ?_))); (case side2 => exact (Kd.R_reads' HO524.out).2.1); (case side3 => exact Kd.C_nil _ _); (case side4 => exact Nat.le_refl _); (case side5 => repeat (first | exact (Kd.R_reads' HO527.out).2.2 | (with_reducible refine Kd.C_alloc ?_ _) | (with_reducible refine Kd.C_drewN ?_ _) | (with_reducible refine Kd.C_drew ?_))); (case side6 => exact (Kd.R_reads' HO527.out).2.1); rintro e w54 ⟨rfl, hb⟩; refine ⟨_, rfl, ?_⟩; have n0_ := Aside0.mk (Kd.R_below (by (with_reducible repeat (first | apply Kd.R_alloc | apply Kd.R_drewN | apply Kd.R_drew)); exact HO524.out) hb); have n1_ := Aside0.mk (Kd.R_below (by (with_reducible repeat (first | apply Kd.R_alloc | apply Kd.R_drewN | apply Kd.R_drew)); exact HO527.out) hb); have n2_ := Aside0.mk (Kd.R_below (by (with_reducible repeat (first | apply Kd.R_alloc | apply Kd.R_drewN | apply Kd.R_drew)); exact HO533.out) hb); have n3_ := bk_ BK528 hb; have n4_ := bs_ HB hb; clear HO524; clear HO527; clear HO533; clear BK528; clear HB; have HO524 := n0_; have HO527 := n1_; have HO533 := n2_; have BK528 := n3_; have HB := n4_; clear n0_ n1_ n2_ n3_ n4_; (try clear hb); (try clear hb2); (try clear hk); (try clear hi)) | ((with_reducible refine gate_callee (f := 23) rfl ?_); refine gl_ (some 40) rfl Try.func23 #[.int .i64 t530] ?_; (with_reducible refine (firkinlaw20_num.calls t530 t538 _ A4.out).mono ?_); rintro e w' ⟨rfl, ⟨nd, rfl⟩⟩; refine ⟨_, rfl, ?_⟩) | ((with_reducible refine gate_callee (f := 23) rfl ?_); refine gl_ (some 42) rfl Try.func23 #[.int .i64 t535] ?_; (with_reducible refine (firkinlaw20_num.calls t535 t539 _ A5.out).mono ?_); rintro e w' ⟨rfl, ⟨nd, rfl⟩⟩; refine ⟨_, rfl, ?_⟩) | ((with_reducible refine gate_callee (f := 23) rfl ?_); refine gl_ (some 45) rfl Try.func23 #[.int .i64 t537] ?_; (with_reducible refine (firkinlaw20_num.calls t537 t540 _ A6.out).mono ?_); rintro e w' ⟨rfl, ⟨nd, rfl⟩⟩; refine ⟨_, rfl, ?_⟩))
   go_ret
   exact en_ HB
 ·rw [if_neg c7] at H
  have c7b0 : ((wrap64 ((wrap64 (t538 + t539)) + t540)) == 0) = false := beq_eq_false_iff_ne.mpr c7
  have c7b1 : ((wrap64 ((wrap64 (t538 + t539)) + t540)) != 0) = true := bne_iff_ne.mpr c7
  obtain rfl := Option.some.inj H
  go_enter Try.func21, Try.ntmps21
  go_wp2_with (first | ((with_reducible refine gate_dst (N := 11) rfl ?_); refine Kd.R_lit k64 _ 64 ?hg (N := 11) ?hd (xs := ([(⟨(⟨#[97]⟩ : ByteArray), 1, true⟩ : S64)] : List (S64))) (inner := [.string (⟨#[97]⟩ : ByteArray), .int .i64 1, .bool true]) (ok := fun _ => True) (okp := fun _ => True) ?hr ?hp (fun _ hk => hk) trivial (Below.refl _ _) (Nat.le_refl _) (by simp) ?_; (case hd => rfl); (case hg => rfl); (case hr => first | (go_simp; done) | (go_simp; rfl)); (case hp => exact (Reps.c3 (show Kd.M k64 _ _ _ (⟨(⟨#[97]⟩ : ByteArray), 1, true⟩ : S64) [.string (⟨#[97]⟩ : ByteArray), .int .i64 1, .bool true] from (k64_mkM _ _ _ (⟨(⟨#[97]⟩ : ByteArray), 1, true⟩ : S64) )) (Reps.none _ _))); intro v523 w55 ho56 hb hg_ hnew_; clear hg_ hnew_; (first | rw [← Ny522.out] at ho56 | (simp only [Int.reduceToNat] at ho56; rw [← Ny522.out] at ho56)); have HO524 := Aside0.mk (Kd.R_lower ho56 (below_size (by repeat (first | (with_reducible first | exact HB.out | apply below_alloc | apply pw_below_drewN | apply below_drew1) | exact HB.out)))); replace HB := bs_ HB hb; clear hb ho56) | ((with_reducible refine gate_dst (N := 13) rfl ?_); refine Kd.R_lit k24 _ 24 ?hg (N := 13) ?hd (xs := ([(⟨true, 0, (⟨#[]⟩ : ByteArray)⟩ : S24)] : List (S24))) (inner := [.bool true, .int .i64 0, .string (⟨#[]⟩ : ByteArray)]) (ok := fun _ => True) (okp := fun _ => True) ?hr ?hp (fun _ hk => hk) trivial (Below.refl _ _) (Nat.le_refl _) (by simp) ?_; (case hd => rfl); (case hg => rfl); (case hr => first | (go_simp; done) | (go_simp; rfl)); (case hp => exact (Reps.c3 (show Kd.M k24 _ _ _ (⟨true, 0, (⟨#[]⟩ : ByteArray)⟩ : S24) [.bool true, .int .i64 0, .string (⟨#[]⟩ : ByteArray)] from (k24_mkM _ _ _ (⟨true, 0, (⟨#[]⟩ : ByteArray)⟩ : S24) )) (Reps.none _ _))); intro v526 w57 ho58 hb hg_ hnew_; clear hg_ hnew_; (first | rw [← Ny525.out] at ho58 | (simp only [Int.reduceToNat] at ho58; rw [← Ny525.out] at ho58)); have n0_ := Aside0.mk (Kd.R_below (by (with_reducible repeat (first | apply Kd.R_alloc | apply Kd.R_drewN | apply Kd.R_drew)); exact HO524.out) hb); have n1_ := Aside0.mk (Kd.R_lower ho58 (below_size (by repeat (first | (with_reducible first | exact HB.out | apply below_alloc | apply pw_below_drewN | apply below_drew1) | exact HB.out)))); have n2_ := bs_ HB hb; clear HO524; clear HB; have HO524 := n0_; have HO527 := n1_; have HB := n2_; clear n0_ n1_ n2_; clear hb ho58) | (refine bx_ (N := 3) (cs := #[.int .i64 0, .string (⟨#[]⟩ : ByteArray), .int .i64 0, .bool false, .int .i64 0, .string (⟨#[]⟩ : ByteArray), .int .i64 0, .string (⟨#[]⟩ : ByteArray), .slice none 0 0]) (t := 27) ?_; intro gb528 hg w59 hbox hb; have n0_ := Aside0.mk (Kd.R_below (by (with_reducible repeat (first | apply Kd.R_alloc | apply Kd.R_drewN | apply Kd.R_drew)); exact HO524.out) hb); have n1_ := Aside0.mk (Kd.R_below (by (with_reducible repeat (first | apply Kd.R_alloc | apply Kd.R_drewN | apply Kd.R_drew)); exact HO527.out) hb); have n2_ := bs_ HB hb; have n3_ := Aside0.mk (hbox); have n4_ := ge_ HB hg; have n5_ := ge_ HB hg; clear HO524; clear HO527; clear HB; have HO524 := n0_; have HO527 := n1_; have HB := n2_; have BK528 := n3_; have GW528 := n4_; have GE528 := n5_; clear n0_ n1_ n2_ n3_ n4_ n5_; clear hb hbox hg; obtain ⟨C60_0, C60_1, C60_2, C60_3, C60_4, C60_5, C60_6, C60_7, C60_8⟩ := zc9_ BK528.out; obtain ⟨F60_0, F60_1, F60_2, F60_3, F60_4, F60_5, F60_6, F60_7, F60_8⟩ := zf9_ BK528.out; obtain ⟨Ao61, co61, eo61⟩ := Kd.R_slice HO524.out; subst eo61; obtain ⟨Ao62, co62, eo62⟩ := Kd.R_slice HO527.out; subst eo62) | ((with_reducible refine gate_callee (f := 22) rfl ?_); refine gl_ (some 20) rfl Try.func22 #[.slice Ao61 y522.length co61, .agg #[.int .i64 2, .string (⟨#[97]⟩ : ByteArray), .int .i64 1, .bool false, .int .i64 5, .string (⟨#[]⟩ : ByteArray), .int .i64 1, .string (⟨#[]⟩ : ByteArray), .slice none 0 0], .slice Ao62 y525.length co62] ?_; (refine (eval_Row.calls k _ _ y522 2 (⟨#[97]⟩ : ByteArray) 1 false 5 (⟨#[]⟩ : ByteArray) 1 (⟨#[]⟩ : ByteArray) _ _ ([] : List (S27)) _ _ y525 t529 t530 _ ?side1 ?side2 ?side3 ?side4 ?side5 ?side6 A1.out).mono ?_); (case side1 => refine (Kd.R_reads' (e := 64) (base := w.heap.size) (ok := fun k_ => True) (n := y522.length) (c := co61) ?_).2.2; exact (by (with_reducible repeat (first | apply Kd.R_alloc | apply Kd.R_drewN | apply Kd.R_drew)); exact (Kd.R_mono (Kd.R_far (p := ⟨gb528, 8, none⟩) (Kd.R_far (p := ⟨gb528, 7, none⟩) (Kd.R_far (p := ⟨gb528, 6, none⟩) (Kd.R_far (p := ⟨gb528, 5, none⟩) (Kd.R_far (p := ⟨gb528, 4, none⟩) (Kd.R_far (p := ⟨gb528, 3, none⟩) (Kd.R_far (p := ⟨gb528, 2, none⟩) (Kd.R_far (p := ⟨gb528, 1, none⟩) (Kd.R_far (p := ⟨gb528, 0, none⟩) (Kd.R_types HO524.out BK528.out (by decide)) (fun _ hk => hk.2) (.int .i64 2)) (fun _ hk => hk.2) (.string (⟨#[97]⟩ : ByteArray))) (fun _ hk => hk.2) (.int .i64 1)) (fun _ hk => hk.2) (.bool false)) (fun _ hk => hk.2) (.int .i64 5)) (fun _ hk => hk.2) (.string (⟨#[]⟩ : ByteArray))) (fun _ hk => hk.2) (.int .i64 1)) (fun _ hk => hk.2) (.string (⟨#[]⟩ : ByteArray))) (fun _ hk => hk.2) (.slice none 0 0)) (fun _ h_ => h_.1)))); (case side2 => exact (Kd.R_reads' HO524.out).2.1); (case side3 => exact Kd.C_nil _ _); (case side4 => exact Nat.le_refl _); (case side5 => refine (Kd.R_reads' (e := 24) (base := w.heap.size) (ok := fun k_ => True) (n := y525.length) (c := co62) ?_).2.2; exact (by (with_reducible repeat (first | apply Kd.R_alloc | apply Kd.R_drewN | apply Kd.R_drew)); exact (Kd.R_mono (Kd.R_far (p := ⟨gb528, 8, none⟩) (Kd.R_far (p := ⟨gb528, 7, none⟩) (Kd.R_far (p := ⟨gb528, 6, none⟩) (Kd.R_far (p := ⟨gb528, 5, none⟩) (Kd.R_far (p := ⟨gb528, 4, none⟩) (Kd.R_far (p := ⟨gb528, 3, none⟩) (Kd.R_far (p := ⟨gb528, 2, none⟩) (Kd.R_far (p := ⟨gb528, 1, none⟩) (Kd.R_far (p := ⟨gb528, 0, none⟩) (Kd.R_types HO527.out BK528.out (by decide)) (fun _ hk => hk.2) (.int .i64 2)) (fun _ hk => hk.2) (.string (⟨#[97]⟩ : ByteArray))) (fun _ hk => hk.2) (.int .i64 1)) (fun _ hk => hk.2) (.bool false)) (fun _ hk => hk.2) (.int .i64 5)) (fun _ hk => hk.2) (.string (⟨#[]⟩ : ByteArray))) (fun _ hk => hk.2) (.int .i64 1)) (fun _ hk => hk.2) (.string (⟨#[]⟩ : ByteArray))) (fun _ hk => hk.2) (.slice none 0 0)) (fun _ h_ => h_.1)))); (case side6 => exact (Kd.R_reads' HO527.out).2.1); rintro e w63 ⟨rfl, hb⟩; refine ⟨_, rfl, ?_⟩; have n0_ := Aside0.mk (Kd.R_below (by (with_reducible repeat (first | apply Kd.R_alloc | apply Kd.R_drewN | apply Kd.R_drew)); exact (Kd.R_mono (Kd.R_far (p := ⟨gb528, 8, none⟩) (Kd.R_far (p := ⟨gb528, 7, none⟩) (Kd.R_far (p := ⟨gb528, 6, none⟩) (Kd.R_far (p := ⟨gb528, 5, none⟩) (Kd.R_far (p := ⟨gb528, 4, none⟩) (Kd.R_far (p := ⟨gb528, 3, none⟩) (Kd.R_far (p := ⟨gb528, 2, none⟩) (Kd.R_far (p := ⟨gb528, 1, none⟩) (Kd.R_far (p := ⟨gb528, 0, none⟩) (Kd.R_types HO524.out BK528.out (by decide)) (fun _ hk => hk.2) (.int .i64 2)) (fun _ hk => hk.2) (.string (⟨#[97]⟩ : ByteArray))) (fun _ hk => hk.2) (.int .i64 1)) (fun _ hk => hk.2) (.bool false)) (fun _ hk => hk.2) (.int .i64 5)) (fun _ hk => hk.2) (.string (⟨#[]⟩ : ByteArray))) (fun _ hk => hk.2) (.int .i64 1)) (fun _ hk => hk.2) (.string (⟨#[]⟩ : ByteArray))) (fun _ hk => hk.2) (.slice none 0 0)) (fun _ h_ => h_.1))) hb); have n1_ := Aside0.mk (Kd.R_below (by (with_reducible repeat (first | apply Kd.R_alloc | apply Kd.R_drewN | apply Kd.R_drew)); exact (Kd.R_mono (Kd.R_far (p := ⟨gb528, 8, none⟩) (Kd.R_far (p := ⟨gb528, 7, none⟩) (Kd.R_far (p := ⟨gb528, 6, none⟩) (Kd.R_far (p := ⟨gb528, 5, none⟩) (Kd.R_far (p := ⟨gb528, 4, none⟩) (Kd.R_far (p := ⟨gb528, 3, none⟩) (Kd.R_far (p := ⟨gb528, 2, none⟩) (Kd.R_far (p := ⟨gb528, 1, none⟩) (Kd.R_far (p := ⟨gb528, 0, none⟩) (Kd.R_types HO527.out BK528.out (by decide)) (fun _ hk => hk.2) (.int .i64 2)) (fun _ hk => hk.2) (.string (⟨#[97]⟩ : ByteArray))) (fun _ hk => hk.2) (.int .i64 1)) (fun _ hk => hk.2) (.bool false)) (fun _ hk => hk.2) (.int .i64 5)) (fun _ hk => hk.2) (.string (⟨#[]⟩ : ByteArray))) (fun _ hk => hk.2) (.int .i64 1)) (fun _ hk => hk.2) (.string (⟨#[]⟩ : ByteArray))) (fun _ hk => hk.2) (.slice none 0 0)) (fun _ h_ => h_.1))) hb); have n2_ := Aside0.mk (blk_below (g := gb528) (o := .cells #[.int .i64 2, .string (⟨#[97]⟩ : ByteArray), .int .i64 1, .bool false, .int .i64 5, .string (⟨#[]⟩ : ByteArray), .int .i64 1, .string (⟨#[]⟩ : ByteArray), .slice none 0 0] 27 (0, 0)) (by (with_reducible repeat (first | refine blk_drewN ?_ _ | refine blk_drew ?_ | refine blk_alloc ?_ _)); refine blk_put (cs := #[.int .i64 2, .string (⟨#[97]⟩ : ByteArray), .int .i64 1, .bool false, .int .i64 5, .string (⟨#[]⟩ : ByteArray), .int .i64 1, .string (⟨#[]⟩ : ByteArray), .slice none 0 0]) ?_ 8 _ rfl; (with_reducible repeat (first | refine blk_drewN ?_ _ | refine blk_drew ?_ | refine blk_alloc ?_ _)); refine blk_put (cs := #[.int .i64 2, .string (⟨#[97]⟩ : ByteArray), .int .i64 1, .bool false, .int .i64 5, .string (⟨#[]⟩ : ByteArray), .int .i64 1, .string (⟨#[]⟩ : ByteArray), .slice none 0 0]) ?_ 7 _ rfl; (with_reducible repeat (first | refine blk_drewN ?_ _ | refine blk_drew ?_ | refine blk_alloc ?_ _)); refine blk_put (cs := #[.int .i64 2, .string (⟨#[97]⟩ : ByteArray), .int .i64 1, .bool false, .int .i64 5, .string (⟨#[]⟩ : ByteArray), .int .i64 0, .string (⟨#[]⟩ : ByteArray), .slice none 0 0]) ?_ 6 _ rfl; (with_reducible repeat (first | refine blk_drewN ?_ _ | refine blk_drew ?_ | refine blk_alloc ?_ _)); refine blk_put (cs := #[.int .i64 2, .string (⟨#[97]⟩ : ByteArray), .int .i64 1, .bool false, .int .i64 5, .string (⟨#[]⟩ : ByteArray), .int .i64 0, .string (⟨#[]⟩ : ByteArray), .slice none 0 0]) ?_ 5 _ rfl; (with_reducible repeat (first | refine blk_drewN ?_ _ | refine blk_drew ?_ | refine blk_alloc ?_ _)); refine blk_put (cs := #[.int .i64 2, .string (⟨#[97]⟩ : ByteArray), .int .i64 1, .bool false, .int .i64 0, .string (⟨#[]⟩ : ByteArray), .int .i64 0, .string (⟨#[]⟩ : ByteArray), .slice none 0 0]) ?_ 4 _ rfl; (with_reducible repeat (first | refine blk_drewN ?_ _ | refine blk_drew ?_ | refine blk_alloc ?_ _)); refine blk_put (cs := #[.int .i64 2, .string (⟨#[97]⟩ : ByteArray), .int .i64 1, .bool false, .int .i64 0, .string (⟨#[]⟩ : ByteArray), .int .i64 0, .string (⟨#[]⟩ : ByteArray), .slice none 0 0]) ?_ 3 _ rfl; (with_reducible repeat (first | refine blk_drewN ?_ _ | refine blk_drew ?_ | refine blk_alloc ?_ _)); refine blk_put (cs := #[.int .i64 2, .string (⟨#[97]⟩ : ByteArray), .int .i64 0, .bool false, .int .i64 0, .string (⟨#[]⟩ : ByteArray), .int .i64 0, .string (⟨#[]⟩ : ByteArray), .slice none 0 0]) ?_ 2 _ rfl; (with_reducible repeat (first | refine blk_drewN ?_ _ | refine blk_drew ?_ | refine blk_alloc ?_ _)); refine blk_put (cs := #[.int .i64 2, .string (⟨#[]⟩ : ByteArray), .int .i64 0, .bool false, .int .i64 0, .string (⟨#[]⟩ : ByteArray), .int .i64 0, .string (⟨#[]⟩ : ByteArray), .slice none 0 0]) ?_ 1 _ rfl; (with_reducible repeat (first | refine blk_drewN ?_ _ | refine blk_drew ?_ | refine blk_alloc ?_ _)); refine blk_put (cs := #[.int .i64 0, .string (⟨#[]⟩ : ByteArray), .int .i64 0, .bool false, .int .i64 0, .string (⟨#[]⟩ : ByteArray), .int .i64 0, .string (⟨#[]⟩ : ByteArray), .slice none 0 0]) ?_ 0 _ rfl; (with_reducible repeat (first | refine blk_drewN ?_ _ | refine blk_drew ?_ | refine blk_alloc ?_ _)); exact BK528.out) hb); have n3_ := bs_ HB hb; clear HO524; clear HO527; clear BK528; clear HB; have HO524 := n0_; have HO527 := n1_; have BK528 := n2_; have HB := n3_; clear n0_ n1_ n2_ n3_; (try clear hb); (try clear hb2); (try clear hk); (try clear hi); obtain ⟨C64_0, C64_1, C64_2, C64_3, C64_4, C64_5, C64_6, C64_7, C64_8⟩ := zc9_ BK528.out; obtain ⟨F64_0, F64_1, F64_2, F64_3, F64_4, F64_5, F64_6, F64_7, F64_8⟩ := zf9_ BK528.out) | ((with_reducible refine gate_dst (N := 26) rfl ?_); refine Kd.R_lit k27 _ 27 ?hg (N := 26) ?hd (xs := ([(⟨2, (⟨#[97]⟩ : ByteArray), 1, (⟨false, 5, (⟨#[]⟩ : ByteArray)⟩ : S24), 1, (⟨#[]⟩ : ByteArray), ([] : List (S27))⟩ : S27)] : List (S27))) (inner := [.int .i64 2, .string (⟨#[97]⟩ : ByteArray), .int .i64 1, .bool false, .int .i64 5, .string (⟨#[]⟩ : ByteArray), .int .i64 1, .string (⟨#[]⟩ : ByteArray), .slice none 0 0]) (ok := fun _ => True) (okp := fun _ => True) ?hr ?hp (fun _ hk => hk) trivial (Below.refl _ _) (Nat.le_refl _) (by simp) ?_; (case hd => rfl); (case hg => rfl); (case hr => first | (go_simp; done) | (go_simp; rfl)); (case hp => exact (Reps.c9 (show Kd.M k27 _ _ _ (⟨2, (⟨#[97]⟩ : ByteArray), 1, (⟨false, 5, (⟨#[]⟩ : ByteArray)⟩ : S24), 1, (⟨#[]⟩ : ByteArray), ([] : List (S27))⟩ : S27) [.int .i64 2, .string (⟨#[97]⟩ : ByteArray), .int .i64 1, .bool false, .int .i64 5, .string (⟨#[]⟩ : ByteArray), .int .i64 1, .string (⟨#[]⟩ : ByteArray), .slice none 0 0] from (k27_mkM _ _ _ (⟨2, (⟨#[97]⟩ : ByteArray), 1, (⟨false, 5, (⟨#[]⟩ : ByteArray)⟩ : S24), 1, (⟨#[]⟩ : ByteArray), ([] : List (S27))⟩ : S27) (Kd.R_nil _ _ _ _ _))) (Reps.none _ _))); intro v532 w65 ho66 hb hg_ hnew_; clear hg_ hnew_; (first | rw [← Ny531.out] at ho66 | (simp only [Int.reduceToNat] at ho66; rw [← Ny531.out] at ho66)); have n0_ := Aside0.mk (Kd.R_below (by (with_reducible repeat (first | apply Kd.R_alloc | apply Kd.R_drewN | apply Kd.R_drew)); exact HO524.out) hb); have n1_ := Aside0.mk (Kd.R_below (by (with_reducible repeat (first | apply Kd.R_alloc | apply Kd.R_drewN | apply Kd.R_drew)); exact HO527.out) hb); have n2_ := Aside0.mk (Kd.R_lower (Kd.R_newB ho66 (by (with_reducible repeat (first | refine blk_drewN ?_ _ | refine blk_drew ?_ | refine blk_alloc ?_ _)); exact BK528.out)) (below_size (by repeat (first | (with_reducible first | exact HB.out | apply below_alloc | apply pw_below_drewN | apply below_drew1 | refine below_set ?_ GE528.out) | exact HB.out)))); have n3_ := bk_ BK528 hb; have n4_ := bs_ HB hb; clear HO524; clear HO527; clear BK528; clear HB; have HO524 := n0_; have HO527 := n1_; have HO533 := n2_; have BK528 := n3_; have HB := n4_; clear n0_ n1_ n2_ n3_ n4_; clear hb ho66; obtain ⟨Ao67, co67, eo67⟩ := Kd.R_slice HO533.out; subst eo67) | ((with_reducible refine gate_callee (f := 22) rfl ?_); refine gl_ (some 29) rfl Try.func22 #[.slice Ao61 y522.length co61, .agg #[.int .i64 5, .string (⟨#[]⟩ : ByteArray), .int .i64 0, .bool false, .int .i64 0, .string (⟨#[]⟩ : ByteArray), .int .i64 0, .string (⟨#[]⟩ : ByteArray), .slice Ao67 y531.length co67], .slice Ao62 y525.length co62] ?_; (with_reducible refine (eval_Row.calls k _ _ y522 5 (⟨#[]⟩ : ByteArray) 0 false 0 (⟨#[]⟩ : ByteArray) 0 (⟨#[]⟩ : ByteArray) _ _ y531 _ _ y525 t534 t535 _ ?side1 ?side2 ?side3 ?side4 ?side5 ?side6 A2.out).mono ?_); (case side1 => repeat (first | exact (Kd.R_reads' HO524.out).2.2 | (with_reducible refine Kd.C_alloc ?_ _) | (with_reducible refine Kd.C_drewN ?_ _) | (with_reducible refine Kd.C_drew ?_))); (case side2 => exact (Kd.R_reads' HO524.out).2.1); (case side3 => repeat (first | exact (Kd.R_reads' HO533.out).2.2 | (with_reducible refine Kd.C_alloc ?_ _) | (with_reducible refine Kd.C_drewN ?_ _) | (with_reducible refine Kd.C_drew ?_))); (case side4 => exact (Kd.R_reads' HO533.out).2.1); (case side5 => repeat (first | exact (Kd.R_reads' HO527.out).2.2 | (with_reducible refine Kd.C_alloc ?_ _) | (with_reducible refine Kd.C_drewN ?_ _) | (with_reducible refine Kd.C_drew ?_))); (case side6 => exact (Kd.R_reads' HO527.out).2.1); rintro e w68 ⟨rfl, hb⟩; refine ⟨_, rfl, ?_⟩; have n0_ := Aside0.mk (Kd.R_below (by (with_reducible repeat (first | apply Kd.R_alloc | apply Kd.R_drewN | apply Kd.R_drew)); exact HO524.out) hb); have n1_ := Aside0.mk (Kd.R_below (by (with_reducible repeat (first | apply Kd.R_alloc | apply Kd.R_drewN | apply Kd.R_drew)); exact HO527.out) hb); have n2_ := Aside0.mk (Kd.R_below (by (with_reducible repeat (first | apply Kd.R_alloc | apply Kd.R_drewN | apply Kd.R_drew)); exact HO533.out) hb); have n3_ := bk_ BK528 hb; have n4_ := bs_ HB hb; clear HO524; clear HO527; clear HO533; clear BK528; clear HB; have HO524 := n0_; have HO527 := n1_; have HO533 := n2_; have BK528 := n3_; have HB := n4_; clear n0_ n1_ n2_ n3_ n4_; (try clear hb); (try clear hb2); (try clear hk); (try clear hi)) | ((with_reducible refine gate_callee (f := 22) rfl ?_); refine gl_ (some 36) rfl Try.func22 #[.slice Ao61 y522.length co61, .agg #[.int .i64 3, .string (⟨#[97]⟩ : ByteArray), .int .i64 0, .bool false, .int .i64 0, .string (⟨#[]⟩ : ByteArray), .int .i64 0, .string (⟨#[]⟩ : ByteArray), .slice none 0 0], .slice Ao62 y525.length co62] ?_; (refine (eval_Row.calls k _ _ y522 3 (⟨#[97]⟩ : ByteArray) 0 false 0 (⟨#[]⟩ : ByteArray) 0 (⟨#[]⟩ : ByteArray) _ _ ([] : List (S27)) _ _ y525 t536 t537 _ ?side1 ?side2 ?side3 ?side4 ?side5 ?side6 A3.out).mono ?_); (case side1 => repeat (first | exact (Kd.R_reads' HO524.out).2.2 | (with_reducible refine Kd.C_alloc ?_ _) | (with_reducible refine Kd.C_drewN ?_ _) | (with_reducible refine Kd.C_drew ?_))); (case side2 => exact (Kd.R_reads' HO524.out).2.1); (case side3 => exact Kd.C_nil _ _); (case side4 => exact Nat.le_refl _); (case side5 => repeat (first | exact (Kd.R_reads' HO527.out).2.2 | (with_reducible refine Kd.C_alloc ?_ _) | (with_reducible refine Kd.C_drewN ?_ _) | (with_reducible refine Kd.C_drew ?_))); (case side6 => exact (Kd.R_reads' HO527.out).2.1); rintro e w69 ⟨rfl, hb⟩; refine ⟨_, rfl, ?_⟩; have n0_ := Aside0.mk (Kd.R_below (by (with_reducible repeat (first | apply Kd.R_alloc | apply Kd.R_drewN | apply Kd.R_drew)); exact HO524.out) hb); have n1_ := Aside0.mk (Kd.R_below (by (with_reducible repeat (first | apply Kd.R_alloc | apply Kd.R_drewN | apply Kd.R_drew)); exact HO527.out) hb); have n2_ := Aside0.mk (Kd.R_below (by (with_reducible repeat (first | apply Kd.R_alloc | apply Kd.R_drewN | apply Kd.R_drew)); exact HO533.out) hb); have n3_ := bk_ BK528 hb; have n4_ := bs_ HB hb; clear HO524; clear HO527; clear HO533; clear BK528; clear HB; have HO524 := n0_; have HO527 := n1_; have HO533 := n2_; have BK528 := n3_; have HB := n4_; clear n0_ n1_ n2_ n3_ n4_; (try clear hb); (try clear hb2); (try clear hk); (try clear hi)) | ((with_reducible refine gate_callee (f := 23) rfl ?_); refine gl_ (some 40) rfl Try.func23 #[.int .i64 t530] ?_; (with_reducible refine (firkinlaw20_num.calls t530 t538 _ A4.out).mono ?_); rintro e w' ⟨rfl, ⟨nd, rfl⟩⟩; refine ⟨_, rfl, ?_⟩) | ((with_reducible refine gate_callee (f := 23) rfl ?_); refine gl_ (some 42) rfl Try.func23 #[.int .i64 t535] ?_; (with_reducible refine (firkinlaw20_num.calls t535 t539 _ A5.out).mono ?_); rintro e w' ⟨rfl, ⟨nd, rfl⟩⟩; refine ⟨_, rfl, ?_⟩) | ((with_reducible refine gate_callee (f := 23) rfl ?_); refine gl_ (some 45) rfl Try.func23 #[.int .i64 t537] ?_; (with_reducible refine (firkinlaw20_num.calls t537 t540 _ A6.out).mono ?_); rintro e w' ⟨rfl, ⟨nd, rfl⟩⟩; refine ⟨_, rfl, ?_⟩))
  go_ret
  exact en_ HB
end Go.Proofs.Ytdedmhmomoejkaa.X
namespace Go.Proofs.Ytdedmhmomoejkaa.X
open Go.RowKit Go.Proofs.YtdedmhmomoejkaaW.PrintWords Go.Proofs.YtdedmhmomoejkaaW.PrintLast Go.Proofs.YtdedmhmomoejkaaW.PrintMore
attribute [local go_sem] max2_int max_two
set_option linter.unusedVariables false
set_option linter.unusedSimpArgs false
mutual
def firkinlaw10_Small.l0 : Nat → List (S24) → Int → Option (Bool)
 | 0, _, _ => none
 | k + 1, x0, x3 => if x3 < (x0.length : Int) then (firkinlaw10_Small.j1 k x0 x3 (decide (x3 < 200))) else (firkinlaw10_Small.j1 k x0 x3 false)
def firkinlaw10_Small.j1 : Nat → List (S24) → Int → Bool → Option (Bool)
 | 0, _, _, _ => none
 | k + 1, x0, x3, x11 => if x11 = true then (if 0 ≤ x3 then (if x3 < (x0.length : Int) then (if (((rd_T24 x0 x3).f2).size : Int) > 60 then (some false) else (firkinlaw10_Small.l0 k x0 (wrap64 (x3 + 1)))) else (none)) else (none)) else (some (decide ((x0.length : Int) ≤ 100)))
end
def firkinlaw10_Small.f (k : Nat) (l0 : List (S24)) : Option (Bool) := firkinlaw10_Small.l0 k l0 0
theorem firkinlaw10_Small.mono_l : ∀ k, (∀ y0 y1, LeO (firkinlaw10_Small.l0 k y0 y1) (firkinlaw10_Small.l0 (k + 1) y0 y1)) ∧ (∀ y0 y1 y2, LeO (firkinlaw10_Small.j1 k y0 y1 y2) (firkinlaw10_Small.j1 (k + 1) y0 y1 y2))
 | 0 => ⟨fun _ _ r h => by simp [firkinlaw10_Small.l0] at h, fun _ _ _ r h => by simp [firkinlaw10_Small.j1] at h⟩
 | k + 1 => by
  obtain ⟨ih0, ih1⟩ := firkinlaw10_Small.mono_l k
  refine ⟨?_, ?_⟩
  ·intro y0 y1
   unfold firkinlaw10_Small.l0
   repeat' first
   | (with_reducible exact ih0 _ _)
   | (with_reducible exact ih1 _ _ _)
   | (with_reducible exact LeO.refl _)
   | (with_reducible exact LeO.none _)
   | (with_reducible refine LeO.ite ?_ ?_)
   | (with_reducible refine LeO.bind ?_ (fun _ => ?_))
   | exact ih0 _ _
   | exact ih1 _ _ _
   | exact LeO.none _
   | refine LeO.ite ?_ ?_
   | refine LeO.bind ?_ (fun _ => ?_)
  ·intro y0 y1 y2
   unfold firkinlaw10_Small.j1
   repeat' first
   | (with_reducible exact ih0 _ _)
   | (with_reducible exact ih1 _ _ _)
   | (with_reducible exact LeO.refl _)
   | (with_reducible exact LeO.none _)
   | (with_reducible refine LeO.ite ?_ ?_)
   | (with_reducible refine LeO.bind ?_ (fun _ => ?_))
   | exact ih0 _ _
   | exact ih1 _ _ _
   | exact LeO.none _
   | refine LeO.ite ?_ ?_
   | refine LeO.bind ?_ (fun _ => ?_)
theorem firkinlaw10_Small.mono : ∀ a0 k, LeO (firkinlaw10_Small.f k a0) (firkinlaw10_Small.f (k + 1) a0) := by
 intro a0 k
 obtain ⟨ih0, ih1⟩ := firkinlaw10_Small.mono_l k
 unfold firkinlaw10_Small.f
 repeat' first
   | (with_reducible exact ih0 _ _)
   | (with_reducible exact ih1 _ _ _)
   | (with_reducible exact LeO.refl _)
   | (with_reducible exact LeO.none _)
   | (with_reducible refine LeO.ite ?_ ?_)
   | (with_reducible refine LeO.bind ?_ (fun _ => ?_))
   | exact ih0 _ _
   | exact ih1 _ _ _
   | exact LeO.none _
   | refine LeO.ite ?_ ?_
   | refine LeO.bind ?_ (fun _ => ?_)
set_option maxHeartbeats 8000000 in
set_option maxRecDepth 100000 in
theorem firkinlaw10_Small.calls (k : Nat) (A0 : Option Addr) (c0 : Nat) (l0 : List (S24)) (r : Bool) (w : World) (hr0 : Kd.C k24 w A0 l0.length l0) (hc0 : l0.length ≤ c0) (h : firkinlaw10_Small.f k l0 = some r) :
  Calls Try.prog 34 #[.slice A0 l0.length c0] w fun e w' => e = .returned (.bool r) ∧ Drawn0 w w' := by
 have HR0 := Aside0.mk hr0
 have HC0 := Aside0.mk hc0
 clear hr0 hc0
 have H : (firkinlaw10_Small.l0 k l0 0) = some r := h
 clear h
 have H' := Aside0.mk H
 clear H
 go_enter Try.func34, Try.ntmps34
 go_wp2
 go_loopg [3] k (fun kq v3 w' => ∃ (x3_1 : Int), v3 = .int .i64 x3_1 ∧ Aside0 (firkinlaw10_Small.l0 kq l0 x3_1 = some r) ∧ Aside0 (kq ≤ k) ∧ Drawn0 w w')
 case atStart => exact ⟨(0), (by first | rfl | (simp; done) | (simp [*]; done)), H', ⟨Nat.le_refl _⟩, by repeat (first | exact Drawn0.refl _ | apply Drawn0.step)⟩
 case round =>
  clear H'
  obtain ⟨x3_1, rfl, HA, HK1, ⟨m1, rfl⟩⟩ := hrel
  cases gk with
  | zero => exact absurd HA.out (by simp [firkinlaw10_Small.l0])
  | succ k1 =>
   have H := HA.out
   clear HA
   simp only [firkinlaw10_Small.l0] at H
   have HC2 := Aside0.mk H
   clear H
   go_upto_region 2 with (fail)
   go_cut [11] (fun v11 wc => ∃ (kq : Nat) (x11_1 : Bool), v11 = .bool x11_1 ∧ Aside0 (firkinlaw10_Small.j1 kq l0 x3_1 x11_1 = some r) ∧ Aside0 (kq ≤ k1) ∧ Drawn0 w wc)
   case first =>
    have H := HC2.out
    clear HC2
    by_cases c3 : x3_1 < (l0.length : Int)
    ·rw [if_pos c3] at H
     have c3b0 : decide (x3_1 < (l0.length : Int)) = true := decide_eq_true c3
     clear c3
     (first | rw [c3b0] | (simp only [i64_w, i32_w]; rw [c3b0]) | skip)
     have H' := Aside0.mk H
     clear H
     go_wp2
     go_meet
     case rel => exact ⟨_, (decide (x3_1 < 200)), (by first | rfl | (simp; done) | (simp [*]; done)), H', ⟨by have := HK1.out; first | omega | exact Nat.le_refl _⟩, by repeat (first | exact Drawn0.refl _ | apply Drawn0.step)⟩
    ·rw [if_neg c3] at H
     have c3b0 : decide (x3_1 < (l0.length : Int)) = false := decide_eq_false c3
     clear c3
     (first | rw [c3b0] | (simp only [i64_w, i32_w]; rw [c3b0]) | skip)
     have H' := Aside0.mk H
     clear H
     go_wp2
     go_meet
     case rel => exact ⟨_, (false), (by first | rfl | (simp; done) | (simp [*]; done)), H', ⟨by have := HK1.out; first | omega | exact Nat.le_refl _⟩, by repeat (first | exact Drawn0.refl _ | apply Drawn0.step)⟩
   case rest =>
    clear HC2
    try clear p2
    try clear c3
    try clear c3b0
    obtain ⟨kq, x11_1, rfl, HA, HJ1, ⟨mc1, rfl⟩⟩ := hcut
    cases kq with
    | zero => exact absurd HA.out (by simp [firkinlaw10_Small.j1])
    | succ kj1 =>
     have H := HA.out
     clear HA
     simp only [firkinlaw10_Small.j1] at H
     by_cases c4 : x11_1 = true
     ·subst c4
      have H1 : (if 0 ≤ x3_1 then (if x3_1 < (l0.length : Int) then (if (((rd_T24 l0 x3_1).f2).size : Int) > 60 then (some false) else (firkinlaw10_Small.l0 kj1 l0 (wrap64 (x3_1 + 1)))) else (none)) else (none)) = some r := by rw [if_pos rfl] at H; exact H
      clear H
      have H := H1
      clear H1
      by_cases c5 : 0 ≤ x3_1
      ·rw [if_pos c5] at H
       have c5b0 : decide (0 ≤ x3_1) = true := decide_eq_true c5
       clear c5
       by_cases c6 : x3_1 < (l0.length : Int)
       ·rw [if_pos c6] at H
        have c6b0 : decide (x3_1 < (l0.length : Int)) = true := decide_eq_true c6
        clear c6
        by_cases c7 : (((rd_T24 l0 x3_1).f2).size : Int) > 60
        ·rw [if_pos c7] at H
         have c7b0 : decide (60 < (((rd_T24 l0 x3_1).f2).size : Int)) = true := decide_eq_true c7
         have c7b1 : decide (60 < ((rd_T24 l0 x3_1).f2).size) = true := decide_eq_true (by omega)
         clear c7
         obtain rfl := Option.some.inj H
         have p351 : 0 ≤ (x3_1 : Int) := dt_
         have q351 : x3_1 < (l0.length : Int) := dt_
         obtain ⟨ad351, e351, hx351_0, hx351_1, hx351_2⟩ := at_T24 HR0.out x3_1 p351 q351
         cases e351
         replace p351 := eq_true p351
         replace q351 := eq_true q351
         go_wp2
         go_ret
         exact ⟨by first | rfl | (simp; done) | (simp [*]; done), by repeat (first | exact Drawn0.refl _ | apply Drawn0.step)⟩
        ·rw [if_neg c7] at H
         have c7b0 : decide (60 < (((rd_T24 l0 x3_1).f2).size : Int)) = false := decide_eq_false c7
         have c7b1 : decide (60 < ((rd_T24 l0 x3_1).f2).size) = false := decide_eq_false (by omega)
         clear c7
         have H' := Aside0.mk H
         clear H
         have p351 : 0 ≤ (x3_1 : Int) := dt_
         have q351 : x3_1 < (l0.length : Int) := dt_
         obtain ⟨ad351, e351, hx351_0, hx351_1, hx351_2⟩ := at_T24 HR0.out x3_1 p351 q351
         cases e351
         replace p351 := eq_true p351
         replace q351 := eq_true q351
         go_wp2
         go_roundg kj1
         case measure => have := HK1.out; have := HJ1.out; omega
         case rel => exact ⟨(wrap64 (x3_1 + 1)), (by first | rfl | (simp; done) | (simp [*]; done)), H', ⟨by have := HK1.out; have := HJ1.out; omega⟩, by repeat (first | exact Drawn0.refl _ | apply Drawn0.step)⟩
       ·rw [if_neg c6] at H
        exact absurd H (by simp)
      ·rw [if_neg c5] at H
       exact absurd H (by simp)
     ·replace c4 := Bool.eq_false_iff.mpr c4
      subst c4
      have H1 : (some (decide ((l0.length : Int) ≤ 100))) = some r := by rw [if_neg (show ¬ (false = true) by decide)] at H; exact H
      clear H
      have H := H1
      clear H1
      obtain rfl := Option.some.inj H
      go_wp2
      go_ret
      exact ⟨by first | rfl | (simp; done) | (simp [*]; done), by repeat (first | exact Drawn0.refl _ | apply Drawn0.step)⟩
end Go.Proofs.Ytdedmhmomoejkaa.X
namespace Go.Proofs.Ytdedmhmomoejkaa.X
open Go.RowKit Go.Proofs.YtdedmhmomoejkaaW.PrintWords Go.Proofs.YtdedmhmomoejkaaW.PrintLast Go.Proofs.YtdedmhmomoejkaaW.PrintMore
attribute [local go_sem] max2_int max_two
set_option linter.unusedVariables false
set_option linter.unusedSimpArgs false
mutual
def firkinlaw13_Small.l0 : Nat → List (S64) → List (List (S24)) → Int → Option (Bool)
 | 0, _, _, _ => none
 | k + 1, x0, x1, x5 => if x5 < (x1.length : Int) then (firkinlaw13_Small.j1 k x0 x1 x5 (decide (x5 < 250))) else (firkinlaw13_Small.j1 k x0 x1 x5 false)
def firkinlaw13_Small.j1 : Nat → List (S64) → List (List (S24)) → Int → Bool → Option (Bool)
 | 0, _, _, _, _ => none
 | k + 1, x0, x1, x5, x13 => if x13 = true then (if 0 ≤ x5 then (if x5 < (x1.length : Int) then (if ((rd_L8 x1 x5).length : Int) > 10 then (some false) else ((firkinlaw10_Small.f k (rd_L8 x1 x5)).bind fun t354 => (if t354 = true then (firkinlaw13_Small.l0 k x0 x1 (wrap64 (x5 + 1))) else (some false)))) else (none)) else (none)) else ((firkinlaw12_Small.f k x0).bind fun t355 => (if t355 = true then (some (decide ((x1.length : Int) ≤ 210))) else (some false)))
end
def firkinlaw13_Small.f (k : Nat) (l0 : List (S64)) (l1 : List (List (S24))) : Option (Bool) := firkinlaw13_Small.l0 k l0 l1 0
theorem firkinlaw13_Small.mono_l : ∀ k, (∀ y0 y1 y2, LeO (firkinlaw13_Small.l0 k y0 y1 y2) (firkinlaw13_Small.l0 (k + 1) y0 y1 y2)) ∧ (∀ y0 y1 y2 y3, LeO (firkinlaw13_Small.j1 k y0 y1 y2 y3) (firkinlaw13_Small.j1 (k + 1) y0 y1 y2 y3))
 | 0 => ⟨fun _ _ _ r h => by simp [firkinlaw13_Small.l0] at h, fun _ _ _ _ r h => by simp [firkinlaw13_Small.j1] at h⟩
 | k + 1 => by
  obtain ⟨ih0, ih1⟩ := firkinlaw13_Small.mono_l k
  refine ⟨?_, ?_⟩
  ·intro y0 y1 y2
   unfold firkinlaw13_Small.l0
   repeat' first
   | (with_reducible exact ih0 _ _ _)
   | (with_reducible exact ih1 _ _ _ _)
   | (with_reducible exact firkinlaw10_Small.mono _ _)
   | (with_reducible exact firkinlaw12_Small.mono _ _)
   | (with_reducible exact LeO.refl _)
   | (with_reducible exact LeO.none _)
   | (with_reducible refine LeO.ite ?_ ?_)
   | (with_reducible refine LeO.bind ?_ (fun _ => ?_))
   | exact ih0 _ _ _
   | exact ih1 _ _ _ _
   | exact firkinlaw10_Small.mono _ _
   | exact firkinlaw12_Small.mono _ _
   | exact LeO.none _
   | refine LeO.ite ?_ ?_
   | refine LeO.bind ?_ (fun _ => ?_)
  ·intro y0 y1 y2 y3
   unfold firkinlaw13_Small.j1
   repeat' first
   | (with_reducible exact ih0 _ _ _)
   | (with_reducible exact ih1 _ _ _ _)
   | (with_reducible exact firkinlaw10_Small.mono _ _)
   | (with_reducible exact firkinlaw12_Small.mono _ _)
   | (with_reducible exact LeO.refl _)
   | (with_reducible exact LeO.none _)
   | (with_reducible refine LeO.ite ?_ ?_)
   | (with_reducible refine LeO.bind ?_ (fun _ => ?_))
   | exact ih0 _ _ _
   | exact ih1 _ _ _ _
   | exact firkinlaw10_Small.mono _ _
   | exact firkinlaw12_Small.mono _ _
   | exact LeO.none _
   | refine LeO.ite ?_ ?_
   | refine LeO.bind ?_ (fun _ => ?_)
theorem firkinlaw13_Small.mono : ∀ a0 a1 k, LeO (firkinlaw13_Small.f k a0 a1) (firkinlaw13_Small.f (k + 1) a0 a1) := by
 intro a0 a1 k
 obtain ⟨ih0, ih1⟩ := firkinlaw13_Small.mono_l k
 unfold firkinlaw13_Small.f
 repeat' first
   | (with_reducible exact ih0 _ _ _)
   | (with_reducible exact ih1 _ _ _ _)
   | (with_reducible exact firkinlaw10_Small.mono _ _)
   | (with_reducible exact firkinlaw12_Small.mono _ _)
   | (with_reducible exact LeO.refl _)
   | (with_reducible exact LeO.none _)
   | (with_reducible refine LeO.ite ?_ ?_)
   | (with_reducible refine LeO.bind ?_ (fun _ => ?_))
   | exact ih0 _ _ _
   | exact ih1 _ _ _ _
   | exact firkinlaw10_Small.mono _ _
   | exact firkinlaw12_Small.mono _ _
   | exact LeO.none _
   | refine LeO.ite ?_ ?_
   | refine LeO.bind ?_ (fun _ => ?_)
set_option maxHeartbeats 8000000 in
set_option maxRecDepth 100000 in
theorem firkinlaw13_Small.calls (k : Nat) (A0 : Option Addr) (c0 : Nat) (l0 : List (S64)) (A1 : Option Addr) (c1 : Nat) (l1 : List (List (S24))) (r : Bool) (w : World) (hr0 : Kd.C k64 w A0 l0.length l0) (hc0 : l0.length ≤ c0) (hr1 : Kd.C (Kd.slice 24 k24) w A1 l1.length l1) (hc1 : l1.length ≤ c1) (h : firkinlaw13_Small.f k l0 l1 = some r) :
  Calls Try.prog 16 #[.slice A0 l0.length c0, .slice A1 l1.length c1] w fun e w' => e = .returned (.bool r) ∧ Drawn0 w w' := by
 have HR0 := Aside0.mk hr0
 have HC0 := Aside0.mk hc0
 clear hr0 hc0
 have HR1 := Aside0.mk hr1
 have HC1 := Aside0.mk hc1
 clear hr1 hc1
 have H : (firkinlaw13_Small.l0 k l0 l1 0) = some r := h
 clear h
 have H' := Aside0.mk H
 clear H
 go_enter Try.func16, Try.ntmps16
 go_wp2
 go_loopg [5] k (fun kq v5 w' => ∃ (x5_1 : Int), v5 = .int .i64 x5_1 ∧ Aside0 (firkinlaw13_Small.l0 kq l0 l1 x5_1 = some r) ∧ Aside0 (kq ≤ k) ∧ Drawn0 w w')
 case atStart => exact ⟨(0), (by first | rfl | (simp; done) | (simp [*]; done)), H', ⟨Nat.le_refl _⟩, by repeat (first | exact Drawn0.refl _ | apply Drawn0.step)⟩
 case round =>
  clear H'
  try clear c1
  try clear p2
  obtain ⟨x5_1, rfl, HA, HK1, ⟨m1, rfl⟩⟩ := hrel
  cases gk with
  | zero => exact absurd HA.out (by simp [firkinlaw13_Small.l0])
  | succ k1 =>
   have H := HA.out
   clear HA
   simp only [firkinlaw13_Small.l0] at H
   have HC3 := Aside0.mk H
   clear H
   go_upto_region 2 with (fail)
   go_cut [13] (fun v13 wc => ∃ (kq : Nat) (x13_2 : Bool), v13 = .bool x13_2 ∧ Aside0 (firkinlaw13_Small.j1 kq l0 l1 x5_1 x13_2 = some r) ∧ Aside0 (kq ≤ k1) ∧ Drawn0 w wc)
   case first =>
    have H := HC3.out
    clear HC3
    by_cases c4 : x5_1 < (l1.length : Int)
    ·rw [if_pos c4] at H
     have c4b0 : decide (x5_1 < (l1.length : Int)) = true := decide_eq_true c4
     clear c4
     (first | rw [c4b0] | (simp only [i64_w, i32_w]; rw [c4b0]) | skip)
     have H' := Aside0.mk H
     clear H
     go_wp2
     go_meet
     case rel => exact ⟨_, (decide (x5_1 < 250)), (by first | rfl | (simp; done) | (simp [*]; done)), H', ⟨by have := HK1.out; first | omega | exact Nat.le_refl _⟩, by repeat (first | exact Drawn0.refl _ | apply Drawn0.step)⟩
    ·rw [if_neg c4] at H
     have c4b0 : decide (x5_1 < (l1.length : Int)) = false := decide_eq_false c4
     clear c4
     (first | rw [c4b0] | (simp only [i64_w, i32_w]; rw [c4b0]) | skip)
     have H' := Aside0.mk H
     clear H
     go_wp2
     go_meet
     case rel => exact ⟨_, (false), (by first | rfl | (simp; done) | (simp [*]; done)), H', ⟨by have := HK1.out; first | omega | exact Nat.le_refl _⟩, by repeat (first | exact Drawn0.refl _ | apply Drawn0.step)⟩
   case rest =>
    clear HC3
    try clear c1
    try clear p2
    try clear c4
    try clear c4b0
    try clear p2
    obtain ⟨kq, x13_2, rfl, HA, HJ2, ⟨mc2, rfl⟩⟩ := hcut
    cases kq with
    | zero => exact absurd HA.out (by simp [firkinlaw13_Small.j1])
    | succ kj2 =>
     have H := HA.out
     clear HA
     simp only [firkinlaw13_Small.j1] at H
     by_cases c5 : x13_2 = true
     ·subst c5
      have H1 : (if 0 ≤ x5_1 then (if x5_1 < (l1.length : Int) then (if ((rd_L8 l1 x5_1).length : Int) > 10 then (some false) else ((firkinlaw10_Small.f kj2 (rd_L8 l1 x5_1)).bind fun t354 => (if t354 = true then (firkinlaw13_Small.l0 kj2 l0 l1 (wrap64 (x5_1 + 1))) else (some false)))) else (none)) else (none)) = some r := by rw [if_pos rfl] at H; exact H
      clear H
      have H := H1
      clear H1
      by_cases c6 : 0 ≤ x5_1
      ·rw [if_pos c6] at H
       have c6b0 : decide (0 ≤ x5_1) = true := decide_eq_true c6
       clear c6
       by_cases c7 : x5_1 < (l1.length : Int)
       ·rw [if_pos c7] at H
        have c7b0 : decide (x5_1 < (l1.length : Int)) = true := decide_eq_true c7
        clear c7
        by_cases c8 : ((rd_L8 l1 x5_1).length : Int) > 10
        ·rw [if_pos c8] at H
         have c8b0 : decide (10 < ((rd_L8 l1 x5_1).length : Int)) = true := decide_eq_true c8
         have c8b1 : decide (10 < (rd_L8 l1 x5_1).length) = true := decide_eq_true (by omega)
         clear c8
         obtain rfl := Option.some.inj H
         have p352 : 0 ≤ (x5_1 : Int) := dt_
         have q352 : x5_1 < (l1.length : Int) := dt_
         obtain ⟨ad352, A352_0, c352_0, e352, hx352_0, hl352_0, hi352_0⟩ := at_L8 HR1.out x5_1 p352 q352
         cases e352
         have HR352_0 := Aside0.mk hi352_0
         have HC352_0 := Aside0.mk hl352_0
         clear hi352_0 hl352_0
         replace p352 := eq_true p352
         replace q352 := eq_true q352
         go_wp2
         go_ret
         exact ⟨by first | rfl | (simp; done) | (simp [*]; done), by repeat (first | exact Drawn0.refl _ | apply Drawn0.step)⟩
        ·rw [if_neg c8] at H
         have c8b0 : decide (10 < ((rd_L8 l1 x5_1).length : Int)) = false := decide_eq_false c8
         have c8b1 : decide (10 < (rd_L8 l1 x5_1).length) = false := decide_eq_false (by omega)
         clear c8
         replace H := Option.bind_eq_some_iff.mp H
         obtain ⟨t354, A90, H⟩ := H
         replace H : (if t354 = true then (firkinlaw13_Small.l0 kj2 l0 l1 (wrap64 (x5_1 + 1))) else (some false)) = some r := H
         have A9 := Aside0.mk A90
         clear A90
         by_cases c10 : t354 = true
         ·subst c10
          have H1 : (firkinlaw13_Small.l0 kj2 l0 l1 (wrap64 (x5_1 + 1))) = some r := by rw [if_pos rfl] at H; exact H
          clear H
          have H := H1
          clear H1
          have H' := Aside0.mk H
          clear H
          have p352 : 0 ≤ (x5_1 : Int) := dt_
          have q352 : x5_1 < (l1.length : Int) := dt_
          obtain ⟨ad352, A352_0, c352_0, e352, hx352_0, hl352_0, hi352_0⟩ := at_L8 HR1.out x5_1 p352 q352
          cases e352
          have HR352_0 := Aside0.mk hi352_0
          have HC352_0 := Aside0.mk hl352_0
          clear hi352_0 hl352_0
          replace p352 := eq_true p352
          replace q352 := eq_true q352
          have p353 : 0 ≤ (x5_1 : Int) := dt_
          have q353 : x5_1 < (l1.length : Int) := dt_
          obtain ⟨ad353, A353_0, c353_0, e353, hx353_0, hl353_0, hi353_0⟩ := at_L8 HR1.out x5_1 p353 q353
          obtain rfl : ad352 = ad353 := (by injection e353)
          have HR353_0 := Aside0.mk hi353_0
          have HC353_0 := Aside0.mk hl353_0
          clear hi353_0 hl353_0
          replace p353 := eq_true p353
          replace q353 := eq_true q353
          have ea_ := Option.some.inj (hx352_0.symm.trans hx353_0)
          injection ea_ with ea_ en_ ec_
          subst ea_
          subst ec_
          clear en_
          go_wp2_with (first | (go_at_call 34; (with_reducible refine (firkinlaw10_Small.calls kj2 _ _ (rd_L8 l1 x5_1) true _ ?side1 ?side2 A9.out).mono ?_); (case side1 => repeat (first | exact HR353_0.out | (with_reducible refine Kd.C_alloc ?_ _) | (with_reducible refine Kd.C_drewN ?_ _) | (with_reducible refine Kd.C_drew ?_))); (case side2 => exact HC353_0.out); rintro e w' ⟨rfl, ⟨nd, rfl⟩⟩))
          go_roundg kj2
          case measure => have := HK1.out; have := HJ2.out; omega
          case rel => exact ⟨(wrap64 (x5_1 + 1)), (by first | rfl | (simp; done) | (simp [*]; done)), H', ⟨by have := HK1.out; have := HJ2.out; omega⟩, by repeat (first | exact Drawn0.refl _ | apply Drawn0.step)⟩
         ·replace c10 := Bool.eq_false_iff.mpr c10
          subst c10
          have H1 : (some false) = some r := by rw [if_neg (show ¬ (false = true) by decide)] at H; exact H
          clear H
          have H := H1
          clear H1
          obtain rfl := Option.some.inj H
          have p352 : 0 ≤ (x5_1 : Int) := dt_
          have q352 : x5_1 < (l1.length : Int) := dt_
          obtain ⟨ad352, A352_0, c352_0, e352, hx352_0, hl352_0, hi352_0⟩ := at_L8 HR1.out x5_1 p352 q352
          cases e352
          have HR352_0 := Aside0.mk hi352_0
          have HC352_0 := Aside0.mk hl352_0
          clear hi352_0 hl352_0
          replace p352 := eq_true p352
          replace q352 := eq_true q352
          have p353 : 0 ≤ (x5_1 : Int) := dt_
          have q353 : x5_1 < (l1.length : Int) := dt_
          obtain ⟨ad353, A353_0, c353_0, e353, hx353_0, hl353_0, hi353_0⟩ := at_L8 HR1.out x5_1 p353 q353
          obtain rfl : ad352 = ad353 := (by injection e353)
          have HR353_0 := Aside0.mk hi353_0
          have HC353_0 := Aside0.mk hl353_0
          clear hi353_0 hl353_0
          replace p353 := eq_true p353
          replace q353 := eq_true q353
          have ea_ := Option.some.inj (hx352_0.symm.trans hx353_0)
          injection ea_ with ea_ en_ ec_
          subst ea_
          subst ec_
          clear en_
          go_wp2_with (first | (go_at_call 34; (with_reducible refine (firkinlaw10_Small.calls kj2 _ _ (rd_L8 l1 x5_1) false _ ?side1 ?side2 A9.out).mono ?_); (case side1 => repeat (first | exact HR353_0.out | (with_reducible refine Kd.C_alloc ?_ _) | (with_reducible refine Kd.C_drewN ?_ _) | (with_reducible refine Kd.C_drew ?_))); (case side2 => exact HC353_0.out); rintro e w' ⟨rfl, ⟨nd, rfl⟩⟩))
          go_ret
          exact ⟨by first | rfl | (simp; done) | (simp [*]; done), by repeat (first | exact Drawn0.refl _ | apply Drawn0.step)⟩
       ·rw [if_neg c7] at H
        exact absurd H (by simp)
      ·rw [if_neg c6] at H
       exact absurd H (by simp)
     ·replace c5 := Bool.eq_false_iff.mpr c5
      subst c5
      have H1 : ((firkinlaw12_Small.f kj2 l0).bind fun t355 => (if t355 = true then (some (decide ((l1.length : Int) ≤ 210))) else (some false))) = some r := by rw [if_neg (show ¬ (false = true) by decide)] at H; exact H
      clear H
      have H := H1
      clear H1
      replace H := Option.bind_eq_some_iff.mp H
      obtain ⟨t355, A110, H⟩ := H
      replace H : (if t355 = true then (some (decide ((l1.length : Int) ≤ 210))) else (some false)) = some r := H
      have A11 := Aside0.mk A110
      clear A110
      by_cases c12 : t355 = true
      ·subst c12
       have H1 : (some (decide ((l1.length : Int) ≤ 210))) = some r := by rw [if_pos rfl] at H; exact H
       clear H
       have H := H1
       clear H1
       obtain rfl := Option.some.inj H
       go_wp2_with (first | ((with_reducible refine gate_callee (f := 9) rfl ?_); refine gl_ (some 31) rfl Try.func9 #[.slice A0 l0.length c0] ?_; (with_reducible refine (firkinlaw12_Small.calls kj2 _ _ l0 true _ ?side1 ?side2 A11.out).mono ?_); (case side1 => repeat (first | exact HR0.out | (with_reducible refine Kd.C_alloc ?_ _) | (with_reducible refine Kd.C_drewN ?_ _) | (with_reducible refine Kd.C_drew ?_))); (case side2 => exact HC0.out); rintro e w' ⟨rfl, ⟨nd, rfl⟩⟩; refine ⟨_, rfl, ?_⟩))
       go_ret
       exact ⟨by first | rfl | (simp; done) | (simp [*]; done), by repeat (first | exact Drawn0.refl _ | apply Drawn0.step)⟩
      ·replace c12 := Bool.eq_false_iff.mpr c12
       subst c12
       have H1 : (some false) = some r := by rw [if_neg (show ¬ (false = true) by decide)] at H; exact H
       clear H
       have H := H1
       clear H1
       obtain rfl := Option.some.inj H
       go_wp2_with (first | ((with_reducible refine gate_callee (f := 9) rfl ?_); refine gl_ (some 31) rfl Try.func9 #[.slice A0 l0.length c0] ?_; (with_reducible refine (firkinlaw12_Small.calls kj2 _ _ l0 false _ ?side1 ?side2 A11.out).mono ?_); (case side1 => repeat (first | exact HR0.out | (with_reducible refine Kd.C_alloc ?_ _) | (with_reducible refine Kd.C_drewN ?_ _) | (with_reducible refine Kd.C_drew ?_))); (case side2 => exact HC0.out); rintro e w' ⟨rfl, ⟨nd, rfl⟩⟩; refine ⟨_, rfl, ?_⟩))
       go_ret
       exact ⟨by first | rfl | (simp; done) | (simp [*]; done), by repeat (first | exact Drawn0.refl _ | apply Drawn0.step)⟩
end Go.Proofs.Ytdedmhmomoejkaa.X
