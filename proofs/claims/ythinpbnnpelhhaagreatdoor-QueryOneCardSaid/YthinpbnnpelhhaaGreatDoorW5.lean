import Derived.Test.YthinpbnnpelhhaaGreatDoorW4
import Derived.Lib.ItoaLen
namespace Go.Proofs.YthinpbnnpelhhaaGreatDoor.V
open Go Go.RowKit Go.Proofs.YthinpbnnpelhhaaGreatDoorW.PrintLast
open Go.Proofs
set_option linter.unusedVariables false
set_option linter.unusedSimpArgs false
attribute [local irreducible] awp
set_option maxRecDepth 100000
/-! The reference's small functions. -/
/-- How many bytes a text's first digits are worth, not minding how great. -/
def foldV (l : List UInt8) : Nat := l.foldl (fun n c => 10 * n + (c.toNat - 48)) 0
theorem foldV_snoc (l : List UInt8) (c : UInt8) : foldV (l ++ [c]) = 10 * foldV l + (c.toNat - 48) := by
  unfold foldV; rw [List.foldl_append]; rfl
theorem foldV_dec (u : Nat) : foldV (Lib.decDigits u) = u := by
  induction u using Nat.strongRecOn with
  | ind u ih =>
    rw [Lib.decDigits]
    split
    · rename_i h
      simp [foldV]
      omega
    · rename_i h
      rw [foldV_snoc, ih (u / 10) (by omega), dig_toNat (show u % 10 < 10 by omega)]
      omega
theorem dec_step (u : Nat) (h : ¬ u < 10) : Lib.decDigits u = Lib.decDigits (u / 10) ++ [UInt8.ofNat (48 + u % 10)] := by
  rw [Lib.decDigits, dif_neg h]
theorem u64w (a : Int) (h0 : 0 ≤ a) (h1 : a < 18446744073709551616) : IntKind.u64.wrap a = a := by rw [IntKind.wrap_u64]; omega
theorem cat_ofL (a b : List UInt8) : ofL a ++ ofL b = ofL (a ++ b) := by
  show ByteArray.append _ _ = _
  apply ByteArray.ext
  simp
theorem dg1 (d : Nat) (h : d < 10) : textOf [[L.c (.v (.int .u8 (IntKind.u8.wrap (IntKind.u64.wrap (48 + (d : Int))))))]] = ofL [UInt8.ofNat (48 + d)] := by
  rw [u64w _ (by omega) (by omega), IntKind.wrap_u8]
  unfold textOf
  congr 2
  show [UInt8.ofNat _] = _
  congr 2
  omega
theorem tm10 (u : Nat) : (u : Int).tmod 10 = ((u % 10 : Nat) : Int) := by rw [Int.tmod_eq_emod_of_nonneg (by omega)]; omega
theorem td10 (u : Nat) : (u : Int).tdiv 10 = ((u / 10 : Nat) : Int) := by rw [Int.tdiv_eq_ediv_of_nonneg (by omega)]; omega
theorem sz_ofL (l : List UInt8) : (ofL l).size = l.length := rfl
set_option maxHeartbeats 4000000 in
theorem c81 (n : Int) (h0 : -9223372036854775808 ≤ n) (h1 : n ≤ 9223372036854775807) : PC Tryz.prog 81 [A.int .i64 n] [] (fun r bx => r = A.str (ofL (Lib.itoa n)) ∧ bx = []) := by
  refine enter (rs := [.tmp 2]) mx Tryz.func81 Tryz.ntmps81 fun Q0 hQ0 => ?_
  obtain ⟨N, hN, hNn⟩ : ∃ N : Nat, (N : Int) = (if n < 0 then -n else n) ∧ Lib.itoa n = (if n < 0 then 45 :: Lib.decDigits N else Lib.decDigits N) := by
    by_cases h : n < 0
    · exact ⟨n.natAbs, by rw [if_pos h]; omega, by unfold Lib.itoa; rw [if_pos h, if_pos h]⟩
    · exact ⟨n.toNat, by rw [if_neg h]; omega, by unfold Lib.itoa; rw [if_neg h, if_neg h]⟩
  have hN64 : N ≤ 9223372036854775808 := by split at hN <;> omega
  refine sq fun _ _ => ?_
  refine rg (sg ?_)
  refine nx ?_
  refine sq fun _ _ => ?_
  refine rg (sg ?_)
  refine nx ?_
  refine sq fun _ _ => ?_
  refine sq fun _ _ => ?_
  refine rg (sg ?_)
  refine nx ?_
  refine cb (fun h => ?_) (fun h => ?_)
  · have hstart : IntKind.u64.wrap (0 - IntKind.u64.wrap n) = (N : Int) := by rw [hN, if_pos h, IntKind.wrap_u64, IntKind.wrap_u64]; omega
    refine rg (sg ?_)
    refine nx ?_
    refine sq fun _ _ => ?_
    refine bl ?_
    refine lp [0, 3, 4] [] (fun k σ => ∃ (u : Nat) (acc : List UInt8), k = u ∧ u ≤ N ∧ Lib.decDigits N = Lib.decDigits u ++ acc ∧ σ = ⟨35, 0, [(0, A.int .i64 n), (3, .int .u64 u), (4, A.str (ofL acc))], []⟩) N ?_ ?_
    · refine ⟨N, [], rfl, Nat.le_refl _, (List.append_nil _).symm, ?_⟩
      simp only [St.keep]
      refine sg ?_
      rw [hstart]
    · rintro k σ' ⟨u, acc, hk, hu, hd, rfl⟩ Q1 hQ1
      have hacc : acc.length ≤ 20 := by
        have h2 := congrArg List.length hd
        rw [Lib.decDigits_length, List.length_append] at h2
        have h3 := Lib.nDigits_le20 N (by omega)
        omega
      refine sq fun _ _ => ?_
      refine sq fun _ _ => ?_
      refine rg (sg ?_)
      refine nx ?_
      refine cb (fun h5 => ?_) (fun h5 => ?_)
      · refine sk (sg ?_)
        refine nx ?_
        refine bl ?_
        refine sq fun _ _ => ?_
        refine rg (sg ?_)
        refine And.intro (by first | assumption | omega | rfl | trivial) ?_
        simp only [tm10, dg1 _ (show u % 10 < 10 by omega), cat_ofL, sz_ofL]
        refine ⟨fun e he => ⟨_, List.mem_singleton.1 he⟩, by simp; omega, ?_⟩
        refine nx ?_
        refine rg (sg ?_)
        refine And.intro (by first | assumption | omega | rfl | trivial) ?_
        simp only [td10]
        rw [u64w _ (by omega) (by omega)]
        refine ln (u / 10) [] ?_ ?_
        · omega
        exact ⟨u / 10, [UInt8.ofNat (48 + u % 10)] ++ acc, rfl, by omega, by rw [hd, dec_step u (by omega), List.append_assoc], keq⟩
      · refine xt (sg ?_)
        refine lx (g := sg ?_)
        refine nx ?_
        refine sq fun _ _ => ?_
        refine rg (sg ?_)
        simp only [dg1 u (by omega), cat_ofL, sz_ofL]
        refine ⟨fun e he => ⟨_, List.mem_singleton.1 he⟩, by simp; omega, ?_⟩
        have hd2 : Lib.decDigits N = UInt8.ofNat (48 + u) :: acc := by rw [hd, Lib.decDigits_one (by omega)]; rfl
        refine nx ?_
        refine sq fun _ _ => ?_
        refine sq fun _ _ => ?_
        refine rg (sg ?_)
        refine nx ?_
        refine cb (fun h6 => ?_) (fun h6 => ?_)
        · refine sq fun _ _ => ?_
          refine rg (sg ?_)
          refine And.intro (by simp; omega) ?_
          refine nx ?_
          refine rt (sg ?_)
          refine f1 (g := sg ?_)
          refine ax [] ⟨?_, rfl⟩
          rw [hNn, if_pos h, hd2]
          exact congrArg A.str (cat_ofL [45] _)
        · exact absurd h h6
  · have hstart : IntKind.u64.wrap n = (N : Int) := by rw [hN, if_neg h, IntKind.wrap_u64]; omega
    refine sk (sg ?_)
    refine nx ?_
    refine sq fun _ _ => ?_
    refine bl ?_
    refine lp [0, 3, 4] [] (fun k σ => ∃ (u : Nat) (acc : List UInt8), k = u ∧ u ≤ N ∧ Lib.decDigits N = Lib.decDigits u ++ acc ∧ σ = ⟨35, 0, [(0, A.int .i64 n), (3, .int .u64 u), (4, A.str (ofL acc))], []⟩) N ?_ ?_
    · refine ⟨N, [], rfl, Nat.le_refl _, (List.append_nil _).symm, ?_⟩
      simp only [St.keep]
      refine sg ?_
      rw [hstart]
    · rintro k σ' ⟨u, acc, hk, hu, hd, rfl⟩ Q1 hQ1
      have hacc : acc.length ≤ 20 := by
        have h2 := congrArg List.length hd
        rw [Lib.decDigits_length, List.length_append] at h2
        have h3 := Lib.nDigits_le20 N (by omega)
        omega
      refine sq fun _ _ => ?_
      refine sq fun _ _ => ?_
      refine rg (sg ?_)
      refine nx ?_
      refine cb (fun h5 => ?_) (fun h5 => ?_)
      · refine sk (sg ?_)
        refine nx ?_
        refine bl ?_
        refine sq fun _ _ => ?_
        refine rg (sg ?_)
        refine And.intro (by first | assumption | omega | rfl | trivial) ?_
        simp only [tm10, dg1 _ (show u % 10 < 10 by omega), cat_ofL, sz_ofL]
        refine ⟨fun e he => ⟨_, List.mem_singleton.1 he⟩, by simp; omega, ?_⟩
        refine nx ?_
        refine rg (sg ?_)
        refine And.intro (by first | assumption | omega | rfl | trivial) ?_
        simp only [td10]
        rw [u64w _ (by omega) (by omega)]
        refine ln (u / 10) [] ?_ ?_
        · omega
        exact ⟨u / 10, [UInt8.ofNat (48 + u % 10)] ++ acc, rfl, by omega, by rw [hd, dec_step u (by omega), List.append_assoc], keq⟩
      · refine xt (sg ?_)
        refine lx (g := sg ?_)
        refine nx ?_
        refine sq fun _ _ => ?_
        refine rg (sg ?_)
        simp only [dg1 u (by omega), cat_ofL, sz_ofL]
        refine ⟨fun e he => ⟨_, List.mem_singleton.1 he⟩, by simp; omega, ?_⟩
        have hd2 : Lib.decDigits N = UInt8.ofNat (48 + u) :: acc := by rw [hd, Lib.decDigits_one (by omega)]; rfl
        refine nx ?_
        refine sq fun _ _ => ?_
        refine sq fun _ _ => ?_
        refine rg (sg ?_)
        refine nx ?_
        refine cb (fun h6 => ?_) (fun h6 => ?_)
        · exact absurd h6 h
        · refine sk (sg ?_)
          refine nx ?_
          refine sq fun _ _ => ?_
          refine rg (sg ?_)
          refine nx ?_
          refine rt ?_
          refine f1 (g := sg ?_)
          refine ax [] ⟨?_, rfl⟩
          rw [hNn, if_neg h, hd2]
          rfl

end Go.Proofs.YthinpbnnpelhhaaGreatDoor.V
