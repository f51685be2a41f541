import Derived.Test.YtdedmhmomoejkaaDoorK3
namespace Go.Proofs.YtdedmhmomoejkaaDoor.V
open Go Go.RowKit Go.Proofs.YtdedmhmomoejkaaDoorW.PrintLast
open Go.Proofs
set_option linter.unusedVariables false
set_option linter.unusedSimpArgs false
attribute [local irreducible] awp
--IMP K3
set_option maxRecDepth 100000
theorem c3 (s n t : Int) (hn : -9223372036854775808 ≤ n ∧ n < 9223372036854775808) : PC Tryd.prog 3 [.int .u64 s, .int .i64 n, .int .i64 t] [] (fun r bx => r = .one (.c (.v (.bool true))) ∧ bx = []) := by
  refine enter (rs := [.tmp 6]) mx Tryd.func3 Tryd.ntmps3 fun Q0 hQ0 => ?_
  repeat first | refine nx ?_ | refine sq fun _ _ => ?_ | refine rg (sg ?_) | refine bl ?_ | refine sk (sg ?_) | refine xt (sg ?_) | refine lx (g := sg ?_) | refine ct (hx := ?_) | refine cf (hy := ?_) | refine lr (g := sg ?_) | refine rt (sg ?_) | refine rt ?_ | refine sk ?_ | refine xt ?_ | refine f1 (g := sg ?_) | refine f2 (g := sg ?_) | refine f3 (g := sg ?_) | refine And.intro (by first | assumption | omega) ?_
  refine cb (fun h => ?_) (fun h => ?_)
  · repeat first | refine nx ?_ | refine sq fun _ _ => ?_ | refine rg (sg ?_) | refine bl ?_ | refine sk (sg ?_) | refine xt (sg ?_) | refine lx (g := sg ?_) | refine ct (hx := ?_) | refine cf (hy := ?_) | refine lr (g := sg ?_) | refine rt (sg ?_) | refine rt ?_ | refine sk ?_ | refine xt ?_ | refine f1 (g := sg ?_) | refine f2 (g := sg ?_) | refine f3 (g := sg ?_) | refine And.intro (by first | assumption | omega) ?_
    refine cl [] (sg ?_)
    refine c9.mono ?_
    rintro r bx ⟨rfl, rfl⟩
    refine sg ?_
    repeat first | refine nx ?_ | refine sq fun _ _ => ?_ | refine rg (sg ?_) | refine bl ?_ | refine sk (sg ?_) | refine xt (sg ?_) | refine lx (g := sg ?_) | refine ct (hx := ?_) | refine cf (hy := ?_) | refine lr (g := sg ?_) | refine rt (sg ?_) | refine rt ?_ | refine sk ?_ | refine xt ?_ | refine f1 (g := sg ?_) | refine f2 (g := sg ?_) | refine f3 (g := sg ?_) | refine And.intro (by first | assumption | omega) ?_
    exact ax [] ⟨rfl, rfl⟩
  · repeat first | refine nx ?_ | refine sq fun _ _ => ?_ | refine rg (sg ?_) | refine bl ?_ | refine sk (sg ?_) | refine xt (sg ?_) | refine lx (g := sg ?_) | refine ct (hx := ?_) | refine cf (hy := ?_) | refine lr (g := sg ?_) | refine rt (sg ?_) | refine rt ?_ | refine sk ?_ | refine xt ?_ | refine f1 (g := sg ?_) | refine f2 (g := sg ?_) | refine f3 (g := sg ?_) | refine And.intro (by first | assumption | omega) ?_
    refine cl [] (sg ?_)
    refine (c10 s n).mono ?_
    rintro r bx ⟨rfl, rfl⟩
    obtain ⟨N, hN⟩ : ∃ N : Nat, (min n 100).toNat = N := ⟨_, rfl⟩
    simp only [hN, rowA, opsS_len]
    refine sg ?_
    repeat first | refine nx ?_ | refine sq fun _ _ => ?_ | refine rg (sg ?_) | refine bl ?_ | refine sk (sg ?_) | refine xt (sg ?_) | refine lx (g := sg ?_) | refine ct (hx := ?_) | refine cf (hy := ?_) | refine lr (g := sg ?_) | refine rt (sg ?_) | refine rt ?_ | refine sk ?_ | refine xt ?_ | refine f1 (g := sg ?_) | refine f2 (g := sg ?_) | refine f3 (g := sg ?_) | refine And.intro (by first | assumption | omega) ?_
    have he : (if 100 < (if n < 0 then 0 else n) then 100 else if n < 0 then 0 else n) = (N : Int) := by
      by_cases h1 : n < 0
      · rw [if_pos h1, if_neg (by omega)]; omega
      · rw [if_neg h1]
        split <;> omega
    simp only [he]
    refine sg ?_
    have hcl : (colsS t).length ≤ 1000 := by
      unfold colsS
      split
      · exact Nat.zero_le _
      · rw [List.length_take]
        have : col3.length = 3 := rfl
        omega
    refine ⟨?_, fun hf => by simp at hf⟩
    refine cl [] (sg ?_)
    refine (c12 t).mono ?_
    rintro r bx ⟨rfl, rfl⟩
    refine sg ?_
    refine cl [] (sg ?_)
    refine (c13 t).mono ?_
    rintro r bx ⟨rfl, rfl⟩
    refine sg ?_
    refine cl [] (sg ?_)
    refine (c11 _ hcl).mono ?_
    rintro r bx ⟨rfl, rfl⟩
    refine sg ?_
    repeat first | refine nx ?_ | refine sq fun _ _ => ?_ | refine rg (sg ?_) | refine bl ?_ | refine sk (sg ?_) | refine xt (sg ?_) | refine lx (g := sg ?_) | refine ct (hx := ?_) | refine cf (hy := ?_) | refine lr (g := sg ?_) | refine rt (sg ?_) | refine rt ?_ | refine sk ?_ | refine xt ?_ | refine f1 (g := sg ?_) | refine f2 (g := sg ?_) | refine f3 (g := sg ?_) | refine And.intro (by first | assumption | omega) ?_
    have hN2 : N ≤ 100 := by omega
    refine lp [7, 8, 9] [0] (fun k σ => ∃ i : Nat, k = N - i ∧ i ≤ N ∧ σ = ⟨48, 0, [(7, .one (.c (.sl N 26 (elemsOf ((opsS N s).1.map cOp))))), (8, .one (.ptr 0 0)), (9, .int .i64 i)], [rB (opsS i s).2]⟩) N ?_ ?_
    · exact ⟨0, by omega, by omega, rfl⟩
    · rintro k' σ' ⟨i, hk, hi, rfl⟩ Q1 hQ1
      repeat first | refine nx ?_ | refine sq fun _ _ => ?_ | refine rg (sg ?_) | refine bl ?_ | refine sk (sg ?_) | refine xt (sg ?_) | refine lx (g := sg ?_) | refine ct (hx := ?_) | refine cf (hy := ?_) | refine lr (g := sg ?_) | refine rt (sg ?_) | refine rt ?_ | refine sk ?_ | refine xt ?_ | refine f1 (g := sg ?_) | refine f2 (g := sg ?_) | refine f3 (g := sg ?_) | refine And.intro (by first | assumption | omega) ?_
      refine cb (fun h => ?_) (fun h => ?_)
      · have hin : i < N := by omega
        have hwi : IntKind.i64.wrap ((i : Int) + 1) = ((i + 1 : Nat) : Int) := by rw [IntKind.wrap_i64]; omega
        have he1 := el_at (f := cOp) (show i < (opsS N s).1.length by rw [opsS_len]; exact hin)
        rw [opsS_at] at he1
        have hx := c14' _ (okOne (opsS i s).2)
        have hr := c15 (opsS i s).2
        have hs2 : (opsS (i + 1) s).2 = (oneS (opsS i s).2).2 := rfl
        generalize (oneS (opsS i s).2).2 = s2 at hr hs2
        generalize (oneS (opsS i s).2).1 = x at he1 hx hr
        obtain ⟨k1, k2, k3, k4, ⟨p1, p2, p3, p4, p5, p6, p7⟩, ⟨q1, q2, ⟨r1, r2, r3, r4, r5, r6, r7⟩, q4, q5⟩⟩ := x
        simp only [cOp, cQu, cPr, lc, rowA, List.map_cons, List.map_nil, List.cons_append, List.nil_append] at hx hr
        repeat first | refine nx ?_ | refine sq fun _ _ => ?_ | refine rg (sg ?_) | refine bl ?_ | refine sk (sg ?_) | refine xt (sg ?_) | refine lx (g := sg ?_) | refine ct (hx := ?_) | refine cf (hy := ?_) | refine lr (g := sg ?_) | refine rt (sg ?_) | refine rt ?_ | refine sk ?_ | refine xt ?_ | refine f1 (g := sg ?_) | refine f2 (g := sg ?_) | refine f3 (g := sg ?_) | refine And.intro (by first | assumption | omega) ?_
        refine dr [.take 0, .take 1, .take 2, .take 3, .take 4, .one 5, .one 6, .pure 7] [0] (sg ?_)
        simp only [he1, cOp, cQu, cPr, rowA, List.cons_append, List.nil_append, el_z, el_s]
        refine ⟨⟨by omega, by omega⟩, ?_⟩
        refine cl [0] (sg ?_)
        refine hr.mono ?_
        rintro r bx ⟨rfl, rfl⟩
        refine sg ?_
        refine cl [] (sg ?_)
        refine hx.mono ?_
        rintro r bx ⟨rfl, rfl⟩
        refine sg ?_
        repeat first | refine nx ?_ | refine sq fun _ _ => ?_ | refine rg (sg ?_) | refine bl ?_ | refine sk (sg ?_) | refine xt (sg ?_) | refine lx (g := sg ?_) | refine ct (hx := ?_) | refine cf (hy := ?_) | refine lr (g := sg ?_) | refine rt (sg ?_) | refine rt ?_ | refine sk ?_ | refine xt ?_ | refine f1 (g := sg ?_) | refine f2 (g := sg ?_) | refine f3 (g := sg ?_) | refine And.intro (by first | assumption | omega) ?_
        refine ln (N - (i + 1)) [0] ?_ ?_
        · omega
        refine ⟨i + 1, rfl, by omega, ?_⟩
        rw [← hwi, hs2]
        rfl
      · repeat first | refine nx ?_ | refine sq fun _ _ => ?_ | refine rg (sg ?_) | refine bl ?_ | refine sk (sg ?_) | refine xt (sg ?_) | refine lx (g := sg ?_) | refine ct (hx := ?_) | refine cf (hy := ?_) | refine lr (g := sg ?_) | refine rt (sg ?_) | refine rt ?_ | refine sk ?_ | refine xt ?_ | refine f1 (g := sg ?_) | refine f2 (g := sg ?_) | refine f3 (g := sg ?_) | refine And.intro (by first | assumption | omega) ?_
        refine cl [] (sg ?_)
        refine c9.mono ?_
        rintro r bx ⟨rfl, rfl⟩
        refine sg ?_
        repeat first | refine nx ?_ | refine sq fun _ _ => ?_ | refine rg (sg ?_) | refine bl ?_ | refine sk (sg ?_) | refine xt (sg ?_) | refine lx (g := sg ?_) | refine ct (hx := ?_) | refine cf (hy := ?_) | refine lr (g := sg ?_) | refine rt (sg ?_) | refine rt ?_ | refine sk ?_ | refine xt ?_ | refine f1 (g := sg ?_) | refine f2 (g := sg ?_) | refine f3 (g := sg ?_) | refine And.intro (by first | assumption | omega) ?_
        exact ax [] ⟨rfl, rfl⟩
end Go.Proofs.YtdedmhmomoejkaaDoor.V
