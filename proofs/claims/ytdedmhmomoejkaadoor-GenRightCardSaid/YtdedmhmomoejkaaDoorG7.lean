import Derived.Test.YtdedmhmomoejkaaDoorG6
namespace Go.Proofs.YtdedmhmomoejkaaDoor.V
open Go Go.RowKit Go.Proofs.YtdedmhmomoejkaaDoorW.PrintLast
open Go.Proofs
set_option linter.unusedVariables false
set_option linter.unusedSimpArgs false
attribute [local irreducible] awp
--IMP G6
set_option maxRecDepth 100000
theorem c32 (s : Int) : PC Tryd.prog 32 [.int .u64 s] [] (fun r bx => r = dA ∧ bx = [dB s]) := by
  refine enter (rs := [.tmp 2]) mx Tryd.func32 Tryd.ntmps32 fun Q0 hQ0 => ?_
  repeat first | refine nx ?_ | refine sq fun _ _ => ?_ | refine rg (sg ?_) | refine bl ?_ | refine sk (sg ?_) | refine xt (sg ?_) | refine lx (g := sg ?_) | refine ct (hx := ?_) | refine cf (hy := ?_) | refine lr (g := sg ?_) | refine rt (sg ?_) | refine rt ?_ | refine sk ?_ | refine xt ?_ | refine f1 (g := sg ?_) | refine f2 (g := sg ?_) | refine f3 (g := sg ?_) | refine And.intro (by first | assumption | omega) ?_
  exact ax [0] ⟨rfl, rfl⟩
theorem opsS_len (n : Nat) (a : Int) : (opsS n a).1.length = n := by
  induction n with
  | zero => rfl
  | succ n ih => simp [opsS, ih]
theorem ops_map (l : List Opn) (bx : List B) (ρ : Nat → Option Nat) : (l.map fun x => lc (cOp x)).map (fun e => e.map (subL bx ρ)) = l.map fun x => lc (cOp x) := by
  rw [List.map_map]
  refine List.map_congr_left fun x _ => ?_
  simp only [Function.comp, lc, List.map_map]
  rfl
theorem lc_sub (x : List C) (bx : List B) (ρ : Nat → Option Nat) : (lc x).map (subL bx ρ) = lc x := by
  unfold lc
  rw [List.map_map]
  rfl
theorem op_ok (x : Opn) : (lc (cOp x)).all lcell = true ∧ ((lc (cOp x)).length == 26) = true := by
  obtain ⟨k1, k2, k3, k4, ⟨p1, p2, p3, p4, p5, p6, p7⟩, ⟨q1, q2, ⟨r1, r2, r3, r4, r5, r6, r7⟩, q4, q5⟩⟩ := x
  exact ⟨rfl, rfl⟩
theorem c10 (s n : Int) : PC Tryd.prog 10 [.int .u64 s, .int .i64 n] [] (fun r bx => r = .one (.c (rowA 26 cOp (opsS (min n 100).toNat s).1)) ∧ bx = []) := by
  obtain ⟨N, hN⟩ : ∃ N : Nat, (min n 100).toNat = N := ⟨_, rfl⟩
  rw [hN]
  refine enter (rs := [.tmp 4]) mx Tryd.func10 Tryd.ntmps10 fun Q0 hQ0 => ?_
  repeat first | refine nx ?_ | refine sq fun _ _ => ?_ | refine rg (sg ?_) | refine bl ?_ | refine sk (sg ?_) | refine xt (sg ?_) | refine lx (g := sg ?_) | refine ct (hx := ?_) | refine cf (hy := ?_) | refine lr (g := sg ?_) | refine rt (sg ?_) | refine rt ?_ | refine sk ?_ | refine xt ?_ | refine f1 (g := sg ?_) | refine f2 (g := sg ?_) | refine f3 (g := sg ?_) | refine And.intro (by first | assumption | omega) ?_
  refine cl [] (sg ?_)
  refine (c32 s).mono ?_
  rintro r bx ⟨rfl, rfl⟩
  refine sg ?_
  repeat first | refine nx ?_ | refine sq fun _ _ => ?_ | refine rg (sg ?_) | refine bl ?_ | refine sk (sg ?_) | refine xt (sg ?_) | refine lx (g := sg ?_) | refine ct (hx := ?_) | refine cf (hy := ?_) | refine lr (g := sg ?_) | refine rt (sg ?_) | refine rt ?_ | refine sk ?_ | refine xt ?_ | refine f1 (g := sg ?_) | refine f2 (g := sg ?_) | refine f3 (g := sg ?_) | refine And.intro (by first | assumption | omega) ?_
  have hN2 : N ≤ 100 ∧ ∀ i : Nat, ((i : Int) < (if 100 < n then 100 else n) ↔ i < N) := by
    refine ⟨by omega, fun i => ?_⟩
    split <;> omega
  generalize (if 100 < n then 100 else n) = M at hN2 ⊢
  refine lp [5, 6, 10, 11] [0] (fun k σ => ∃ i : Nat, k = N - i ∧ i ≤ N ∧ ∃ x X, σ = ⟨20, 0, [(5, dA), (6, x), (10, .int .i64 M), (11, .int .i64 i)], dB (opsS i s).2 :: X⟩ ∧
    ((i = 0 ∧ x = .one (.c (.v (.slice none 0 0))) ∧ X = []) ∨ (0 < i ∧ x = .one (.own 1 26 0 i) ∧ X = [.arr ((opsS i s).1.map fun x => lc (cOp x)) 26 44]))) N ?_ ?_
  · refine ⟨0, by omega, by omega, _, _, ?_, .inl ⟨rfl, rfl, rfl⟩⟩
    refine sg ?_
    rfl
  · rintro k σ' ⟨i, hk, hi, x, X, rfl, hX⟩ Q1 hQ1
    repeat first | refine nx ?_ | refine sq fun _ _ => ?_ | refine rg (sg ?_) | refine bl ?_ | refine sk (sg ?_) | refine xt (sg ?_) | refine lx (g := sg ?_) | refine ct (hx := ?_) | refine cf (hy := ?_) | refine lr (g := sg ?_) | refine rt (sg ?_) | refine rt ?_ | refine sk ?_ | refine xt ?_ | refine f1 (g := sg ?_) | refine f2 (g := sg ?_) | refine f3 (g := sg ?_) | refine And.intro (by first | assumption | omega) ?_
    refine cb (fun h => ?_) (fun h => ?_)
    · have hin := (hN2.2 i).1 h
      have hwi : IntKind.i64.wrap ((i : Int) + 1) = ((i + 1 : Nat) : Int) := by rw [IntKind.wrap_i64]; omega
      rcases hX with ⟨hi0, rfl, rfl⟩ | ⟨hi0, rfl, rfl⟩
      · repeat first | refine nx ?_ | refine sq fun _ _ => ?_ | refine rg (sg ?_) | refine bl ?_ | refine sk (sg ?_) | refine xt (sg ?_) | refine lx (g := sg ?_) | refine ct (hx := ?_) | refine cf (hy := ?_) | refine lr (g := sg ?_) | refine rt (sg ?_) | refine rt ?_ | refine sk ?_ | refine xt ?_ | refine f1 (g := sg ?_) | refine f2 (g := sg ?_) | refine f3 (g := sg ?_) | refine And.intro (by first | assumption | omega) ?_
        refine cl [0] (sg ?_)
        refine (c33 _).mono ?_
        rintro r bx ⟨rfl, rfl⟩
        refine sg ?_
        simp only [lc_sub]
        refine ⟨(op_ok _).1, (op_ok _).2, (op_ok _).1, ?_⟩
        repeat first | refine nx ?_ | refine sq fun _ _ => ?_ | refine rg (sg ?_) | refine bl ?_ | refine sk (sg ?_) | refine xt (sg ?_) | refine lx (g := sg ?_) | refine ct (hx := ?_) | refine cf (hy := ?_) | refine lr (g := sg ?_) | refine rt (sg ?_) | refine rt ?_ | refine sk ?_ | refine xt ?_ | refine f1 (g := sg ?_) | refine f2 (g := sg ?_) | refine f3 (g := sg ?_) | refine And.intro (by first | assumption | omega) ?_
        refine ln (N - (i + 1)) [0, 2] ?_ ?_
        · omega
        refine ⟨i + 1, rfl, by omega, _, _, ?_, .inr ⟨by omega, rfl, rfl⟩⟩
        simp only [hwi]
        refine sg ?_
        subst hi0
        simp only [lc_sub]
        rfl
      · repeat first | refine nx ?_ | refine sq fun _ _ => ?_ | refine rg (sg ?_) | refine bl ?_ | refine sk (sg ?_) | refine xt (sg ?_) | refine lx (g := sg ?_) | refine ct (hx := ?_) | refine cf (hy := ?_) | refine lr (g := sg ?_) | refine rt (sg ?_) | refine rt ?_ | refine sk ?_ | refine xt ?_ | refine f1 (g := sg ?_) | refine f2 (g := sg ?_) | refine f3 (g := sg ?_) | refine And.intro (by first | assumption | omega) ?_
        refine cl [0] (sg ?_)
        refine (c33 _).mono ?_
        rintro r bx ⟨rfl, rfl⟩
        refine sg ?_
        simp only [lc_sub]
        refine ⟨(op_ok _).1, (op_ok _).2, (op_ok _).1, Nat.le_of_eq (opsS_len i s).symm, by omega, by simp only [maxLen]; omega, ?_⟩
        rw [List.take_of_length_le (show (List.map (fun x => lc (cOp x)) (opsS i s).1).length ≤ i by rw [List.length_map, opsS_len]; exact Nat.le_refl _)]
        repeat first | refine nx ?_ | refine sq fun _ _ => ?_ | refine rg (sg ?_) | refine bl ?_ | refine sk (sg ?_) | refine xt (sg ?_) | refine lx (g := sg ?_) | refine ct (hx := ?_) | refine cf (hy := ?_) | refine lr (g := sg ?_) | refine rt (sg ?_) | refine rt ?_ | refine sk ?_ | refine xt ?_ | refine f1 (g := sg ?_) | refine f2 (g := sg ?_) | refine f3 (g := sg ?_) | refine And.intro (by first | assumption | omega) ?_
        refine ln (N - (i + 1)) [0, 3] ?_ ?_
        · omega
        refine ⟨i + 1, rfl, by omega, _, _, ?_, .inr ⟨by omega, rfl, rfl⟩⟩
        simp only [hwi]
        refine sg ?_
        simp only [List.map_append, ops_map, List.map_cons, List.map_nil, lc_sub, opsS]
    · have hin : i = N := by
        have := (hN2.2 i).2
        omega
      rcases hX with ⟨hi0, rfl, rfl⟩ | ⟨hi0, rfl, rfl⟩
      · repeat first | refine nx ?_ | refine sq fun _ _ => ?_ | refine rg (sg ?_) | refine bl ?_ | refine sk (sg ?_) | refine xt (sg ?_) | refine lx (g := sg ?_) | refine ct (hx := ?_) | refine cf (hy := ?_) | refine lr (g := sg ?_) | refine rt (sg ?_) | refine rt ?_ | refine sk ?_ | refine xt ?_ | refine f1 (g := sg ?_) | refine f2 (g := sg ?_) | refine f3 (g := sg ?_) | refine And.intro (by first | assumption | omega) ?_
        refine aw [] (.one (.c (rowA 26 cOp (opsS N s).1))) [] ?_ (leBs.refl _) ⟨rfl, rfl⟩
        subst hi0
        subst hin
        exact .one (.c _ _ (.nil _ _))
      · repeat first | refine nx ?_ | refine sq fun _ _ => ?_ | refine rg (sg ?_) | refine bl ?_ | refine sk (sg ?_) | refine xt (sg ?_) | refine lx (g := sg ?_) | refine ct (hx := ?_) | refine cf (hy := ?_) | refine lr (g := sg ?_) | refine rt (sg ?_) | refine rt ?_ | refine sk ?_ | refine xt ?_ | refine f1 (g := sg ?_) | refine f2 (g := sg ?_) | refine f3 (g := sg ?_) | refine And.intro (by first | assumption | omega) ?_
        refine ax [] ⟨?_, rfl⟩
        subst hin
        rw [← view_own cOp _ (bx := [dB (opsS i s).2, B.arr ((opsS i s).1.map fun x => lc (cOp x)) 26 44]) (id := 1) (e := 44) rfl (opsS_len i _)]
        rfl
end Go.Proofs.YtdedmhmomoejkaaDoor.V
