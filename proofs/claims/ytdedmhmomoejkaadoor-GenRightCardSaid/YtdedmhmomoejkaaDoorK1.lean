import Derived.Test.YtdedmhmomoejkaaDoorH3
namespace Go.Proofs.YtdedmhmomoejkaaDoor.V
open Go Go.RowKit Go.Proofs.YtdedmhmomoejkaaDoorW.PrintLast
open Go.Proofs
set_option linter.unusedVariables false
set_option linter.unusedSimpArgs false
attribute [local irreducible] awp
--IMP H3
set_option maxRecDepth 100000
abbrev rA : A := .one (.ptr 0 0)
abbrev rB (a : Int) : B := .var [.c (.v (.int .u64 a))] 31
theorem nxt_rng (a : Int) : 0 ≤ nxt a ∧ nxt a < 18446744073709551616 := by unfold nxt; rw [IntKind.wrap_u64]; omega
theorem drw_div (k a : Int) : IntKind.i64.wrap ((IntKind.u64.wrap ((nxt a).tdiv 8589934592)).tmod (IntKind.u64.wrap k)) = drw k a := by
  obtain ⟨h1, h2⟩ := nxt_rng a
  have e1 : IntKind.u64.wrap ((nxt a).tdiv 8589934592) = (nxt a).tdiv 8589934592 := by
    rw [IntKind.wrap_u64, Int.tdiv_eq_ediv_of_nonneg h1]
    omega
  have e2 : (nxt a).fdiv (2 ^ min (Int.toNat 33) IntKind.u64.bits) = (nxt a).tdiv 8589934592 := by
    rw [Int.tdiv_eq_ediv_of_nonneg h1]
    exact Int.fdiv_eq_ediv_of_nonneg _ (by decide)
  unfold drw
  rw [e1, e2]
theorem c37 (k a : Int) (hk : 0 < k) (hk2 : k < 1000) : PC Tryd.prog 37 [rA, .int .i64 k] [rB a] (fun r bx => r = .int .i64 (drw k a) ∧ bx = [rB (nxt a)]) := by
  refine enter (rs := [.tmp 4]) mx Tryd.func37 Tryd.ntmps37 fun Q0 hQ0 => ?_
  have hne := wrap_ne hk hk2
  repeat first | refine nx ?_ | refine sq fun _ _ => ?_ | refine rg (sg ?_) | refine bl ?_ | refine sk (sg ?_) | refine xt (sg ?_) | refine lx (g := sg ?_) | refine ct (hx := ?_) | refine cf (hy := ?_) | refine lr (g := sg ?_) | refine rt (sg ?_) | refine rt ?_ | refine sk ?_ | refine xt ?_ | refine f1 (g := sg ?_) | refine f2 (g := sg ?_) | refine f3 (g := sg ?_) | refine And.intro (by first | assumption | omega) ?_
  refine ax [] ⟨?_, rfl⟩
  rw [← drw_div]
  rfl
theorem c13 (t : Int) : PC Tryd.prog 13 [.int .i64 t] [] (fun r bx => r = .one (.c (rowA 3 cCo (colsS t))) ∧ bx = []) := by
  refine enter (rs := [.tmp 2]) mx Tryd.func13 Tryd.ntmps13 fun Q0 hQ0 => ?_
  repeat first | refine nx ?_ | refine sq fun _ _ => ?_ | refine rg (sg ?_) | refine bl ?_ | refine sk (sg ?_) | refine xt (sg ?_) | refine lx (g := sg ?_) | refine ct (hx := ?_) | refine cf (hy := ?_) | refine lr (g := sg ?_) | refine rt (sg ?_) | refine rt ?_ | refine sk ?_ | refine xt ?_ | refine f1 (g := sg ?_) | refine f2 (g := sg ?_) | refine f3 (g := sg ?_) | refine And.intro (by first | assumption | omega) ?_
  refine cb (fun h => ?_) (fun h => ?_)
  · repeat first | refine nx ?_ | refine sq fun _ _ => ?_ | refine rg (sg ?_) | refine bl ?_ | refine sk (sg ?_) | refine xt (sg ?_) | refine lx (g := sg ?_) | refine ct (hx := ?_) | refine cf (hy := ?_) | refine lr (g := sg ?_) | refine rt (sg ?_) | refine rt ?_ | refine sk ?_ | refine xt ?_ | refine f1 (g := sg ?_) | refine f2 (g := sg ?_) | refine f3 (g := sg ?_) | refine And.intro (by first | assumption | omega) ?_
    have e : colsS t = [] := if_pos (by omega)
    rw [e]
    refine aw [] (.one (.c (rowA 3 cCo []))) [] ?_ (leBs.refl _) ⟨rfl, rfl⟩
    exact .one (.c _ _ (.nil _ _))
  · have hw : IntKind.i64.wrap (t + 1) = t + 1 := by rw [IntKind.wrap_i64]; omega
    have ht : t = 0 ∨ t = 1 ∨ t = 2 := by omega
    repeat first | refine nx ?_ | refine sq fun _ _ => ?_ | refine rg (sg ?_) | refine bl ?_ | refine sk (sg ?_) | refine xt (sg ?_) | refine lx (g := sg ?_) | refine ct (hx := ?_) | refine cf (hy := ?_) | refine lr (g := sg ?_) | refine rt (sg ?_) | refine rt ?_ | refine sk ?_ | refine xt ?_ | refine f1 (g := sg ?_) | refine f2 (g := sg ?_) | refine f3 (g := sg ?_) | refine And.intro (by first | assumption | omega) ?_
    simp only [hw]
    rcases ht with rfl | rfl | rfl
    · refine sg ?_
      repeat first | refine nx ?_ | refine sq fun _ _ => ?_ | refine rg (sg ?_) | refine bl ?_ | refine sk (sg ?_) | refine xt (sg ?_) | refine lx (g := sg ?_) | refine ct (hx := ?_) | refine cf (hy := ?_) | refine lr (g := sg ?_) | refine rt (sg ?_) | refine rt ?_ | refine sk ?_ | refine xt ?_ | refine f1 (g := sg ?_) | refine f2 (g := sg ?_) | refine f3 (g := sg ?_) | refine And.intro (by first | assumption | omega) ?_
      refine aw [] (.one (.c (rowA 3 cCo (colsS 0)))) [] (.one (.c _ _ ?_)) (.refl _) ⟨rfl, rfl⟩
      exact row_le fun i hi j hj => by rcases i with _ | _ | _ | i <;> rcases j with _ | _ | _ | j <;> first | rfl | omega
    · refine sg ?_
      repeat first | refine nx ?_ | refine sq fun _ _ => ?_ | refine rg (sg ?_) | refine bl ?_ | refine sk (sg ?_) | refine xt (sg ?_) | refine lx (g := sg ?_) | refine ct (hx := ?_) | refine cf (hy := ?_) | refine lr (g := sg ?_) | refine rt (sg ?_) | refine rt ?_ | refine sk ?_ | refine xt ?_ | refine f1 (g := sg ?_) | refine f2 (g := sg ?_) | refine f3 (g := sg ?_) | refine And.intro (by first | assumption | omega) ?_
      refine aw [] (.one (.c (rowA 3 cCo (colsS 1)))) [] (.one (.c _ _ ?_)) (.refl _) ⟨rfl, rfl⟩
      exact row_le fun i hi j hj => by rcases i with _ | _ | _ | i <;> rcases j with _ | _ | _ | j <;> first | rfl | omega
    · refine sg ?_
      repeat first | refine nx ?_ | refine sq fun _ _ => ?_ | refine rg (sg ?_) | refine bl ?_ | refine sk (sg ?_) | refine xt (sg ?_) | refine lx (g := sg ?_) | refine ct (hx := ?_) | refine cf (hy := ?_) | refine lr (g := sg ?_) | refine rt (sg ?_) | refine rt ?_ | refine sk ?_ | refine xt ?_ | refine f1 (g := sg ?_) | refine f2 (g := sg ?_) | refine f3 (g := sg ?_) | refine And.intro (by first | assumption | omega) ?_
      refine aw [] (.one (.c (rowA 3 cCo (colsS 2)))) [] (.one (.c _ _ ?_)) (.refl _) ⟨rfl, rfl⟩
      exact row_le fun i hi j hj => by rcases i with _ | _ | _ | i <;> rcases j with _ | _ | _ | j <;> first | rfl | omega
theorem c39 (m a : Int) : PC Tryd.prog 39 [rA, .int .i64 m] [rB a] (fun r bx => r = .agg (lc (cPr (whereS m a).1)) ∧ bx = [rB (whereS m a).2]) := by
  refine enter (rs := [.cell 4 38]) mx Tryd.func39 Tryd.ntmps39 fun Q0 hQ0 => ?_
  repeat first | refine nx ?_ | refine sq fun _ _ => ?_ | refine rg (sg ?_) | refine bl ?_ | refine sk (sg ?_) | refine xt (sg ?_) | refine lx (g := sg ?_) | refine ct (hx := ?_) | refine cf (hy := ?_) | refine lr (g := sg ?_) | refine rt (sg ?_) | refine rt ?_ | refine sk ?_ | refine xt ?_ | refine f1 (g := sg ?_) | refine f2 (g := sg ?_) | refine f3 (g := sg ?_) | refine And.intro (by first | assumption | omega) ?_
  refine cl [0] (sg ?_)
  refine (c37 20 a (by omega) (by omega)).mono ?_
  rintro r bx ⟨rfl, rfl⟩
  refine sg ?_
  repeat first | refine nx ?_ | refine sq fun _ _ => ?_ | refine rg (sg ?_) | refine bl ?_ | refine sk (sg ?_) | refine xt (sg ?_) | refine lx (g := sg ?_) | refine ct (hx := ?_) | refine cf (hy := ?_) | refine lr (g := sg ?_) | refine rt (sg ?_) | refine rt ?_ | refine sk ?_ | refine xt ?_ | refine f1 (g := sg ?_) | refine f2 (g := sg ?_) | refine f3 (g := sg ?_) | refine And.intro (by first | assumption | omega) ?_
  refine aw [] (.agg (lc (cPr (whereS m a).1))) [rB (whereS m a).2] ?_ (leBs.refl _) ⟨rfl, rfl⟩
  simp only [whereS, cPr, lc, List.map_cons, List.map_nil, List.length_nil]
  refine .agg ?_
  repeat first | exact leLs.nil | refine leLs.cons (by first | exact .refl _ | exact .c _ _ (.nil _ _)) ?_
end Go.Proofs.YtdedmhmomoejkaaDoor.V
