import Derived.Test.YtdedmhmomoejkaaDoorR5
namespace Go.Proofs.YtdedmhmomoejkaaDoor.V
open Go Go.RowKit Go.Proofs.YtdedmhmomoejkaaDoorW.PrintLast
open Go.Proofs
set_option linter.unusedVariables false
set_option linter.unusedSimpArgs false
attribute [local irreducible] awp
--IMP R5
set_option maxRecDepth 100000
/-- A column a, compared with a number. -/
abbrev prA (m v : Int) : Pr := .mk 2 bA m ⟨false, v, ⟨#[]⟩⟩ 1 ⟨#[]⟩ []
theorem bA_ok : okN bA := by
  refine ⟨fun i hi => ?_, ?_, by decide, by decide⟩
  · have : i = 0 := by have : bA.size = 1 := rfl; omega
    subst this
    exact .inl (by decide)
  · decide
theorem c156 (m v : Int) : PC Tryd.prog 156 [.agg (lc (cPr (prA m v))), .int .i64 16, .int .i64 6] [] (fun r bx => r = .int .i64 1 ∧ bx = []) := by
  refine enter (rs := [.tmp 6]) mx Tryd.func156 Tryd.ntmps156 fun Q0 hQ0 => ?_
  simp only [cPr, lc, List.map_cons, List.map_nil, List.length_nil]
  repeat first | refine nx ?_ | refine sq fun _ _ => ?_ | refine rg (sg ?_) | refine bl ?_ | refine sk (sg ?_) | refine xt (sg ?_) | refine lx (g := sg ?_) | refine ct (hx := ?_) | refine cf (hy := ?_) | refine lr (g := sg ?_) | refine rt (sg ?_) | refine rt ?_ | refine sk ?_ | refine xt ?_ | refine f1 (g := sg ?_) | refine f2 (g := sg ?_) | refine f3 (g := sg ?_) | refine And.intro (by first | assumption | omega) ?_
  refine lp [3, 7, 8] [0] (fun k' σ => σ = ⟨40, 0, [(3, .one (.ptr 0 0)), (7, .int .i64 1), (8, .int .i64 0)], [.var ((cPr (prA m v)).map L.c) 38]⟩) 0 rfl ?_
  rintro k' σ' rfl Q1 hQ1
  simp only [cPr, lc, List.map_cons, List.map_nil, List.length_nil]
  repeat first | refine nx ?_ | refine sq fun _ _ => ?_ | refine rg (sg ?_) | refine bl ?_ | refine sk (sg ?_) | refine xt (sg ?_) | refine lx (g := sg ?_) | refine ct (hx := ?_) | refine cf (hy := ?_) | refine lr (g := sg ?_) | refine rt (sg ?_) | refine rt ?_ | refine sk ?_ | refine xt ?_ | refine f1 (g := sg ?_) | refine f2 (g := sg ?_) | refine f3 (g := sg ?_) | refine And.intro (by first | assumption | omega) ?_
  exact ax [] ⟨rfl, rfl⟩
theorem okC_num (v : Int) : okC 1 false ⟨false, v, ⟨#[]⟩⟩ := ⟨by omega, by omega, fun h => (nomatch h), fun _ h => absurd h (by decide), fun _ _ => ⟨rfl, .inl rfl⟩⟩
theorem nilK (m v : Int) : leA (.agg [.c (.v (.int .i64 2)), .c (.v (.string bA)), .c (.v (.int .i64 m)), .c (.v (.bool false)), .c (.v (.int .i64 v)), .c (.v (.string ⟨#[]⟩)), .c (.v (.int .i64 1)), .c (.v (.string ⟨#[]⟩)), .c (.v (.slice none 0 0))]) (.agg (lc (cPr (prA m v)))) := by
  simp only [cPr, lc, List.map_cons, List.map_nil, List.length_nil]
  refine .agg ?_
  repeat first | exact leLs.nil | refine leLs.cons (by first | exact .refl _ | exact .c _ _ (.nil _ _)) ?_
theorem c79n (m v : Int) : PC Tryd.prog 79 [.agg [.c (.v (.int .i64 2)), .c (.v (.string bA)), .c (.v (.int .i64 m)), .c (.v (.bool false)), .c (.v (.int .i64 v)), .c (.v (.string ⟨#[]⟩)), .c (.v (.int .i64 1)), .c (.v (.string ⟨#[]⟩)), .c (.v (.slice none 0 0))], .agg [.c (.v (.int .i64 2)), .c (.v (.string bA)), .c (.v (.int .i64 m)), .c (.v (.bool false)), .c (.v (.int .i64 v)), .c (.v (.string ⟨#[]⟩)), .c (.v (.int .i64 1)), .c (.v (.string ⟨#[]⟩)), .c (.v (.slice none 0 0))]] [] (fun r bx => r = .bool true ∧ bx = []) :=
  PC.args (c79 2 bA m ⟨false, v, ⟨#[]⟩⟩ 1 ⟨#[]⟩ []) rfl (fun j a a' h h' => by
    rcases j with _ | _ | j
    · obtain rfl := Option.some.inj h
      obtain rfl := Option.some.inj h'
      exact nilK m v
    · obtain rfl := Option.some.inj h
      obtain rfl := Option.some.inj h'
      exact nilK m v
    · cases h) (leBs.refl []) (fun b h => (nomatch h))
set_option maxHeartbeats 2000000 in
theorem c157 (m v : Int) (hm : m = 3 ∨ m = 6) : PC Tryd.prog 157 [.agg (lc (cPr (prA m v)))] [] (fun r bx => r = .bool true ∧ bx = []) := by
  rcases hm with rfl | rfl
  · refine enter (rs := [.tmp 2]) mx Tryd.func157 Tryd.ntmps157 fun Q0 hQ0 => ?_
    simp only [cPr, lc, List.map_cons, List.map_nil, List.length_nil]
    repeat first | refine nx ?_ | refine sq fun _ _ => ?_ | refine rg (sg ?_) | refine bl ?_ | refine sk (sg ?_) | refine xt (sg ?_) | refine lx (g := sg ?_) | refine ct (hx := ?_) | refine cf (hy := ?_) | refine lr (g := sg ?_) | refine rt (sg ?_) | refine rt ?_ | refine sk ?_ | refine xt ?_ | refine f1 (g := sg ?_) | refine f2 (g := sg ?_) | refine f3 (g := sg ?_) | refine And.intro (by first | assumption | omega) ?_
    refine cl [] (sg ?_)
    refine (c40 bA bA_ok).mono ?_
    rintro r bx ⟨rfl, rfl⟩
    refine sg ?_
    refine cl [] (sg ?_)
    refine (c122 1 false ⟨false, v, ⟨#[]⟩⟩ (okC_num v)).mono ?_
    rintro r bx ⟨rfl, rfl⟩
    refine sg ?_
    repeat first | refine nx ?_ | refine sq fun _ _ => ?_ | refine rg (sg ?_) | refine bl ?_ | refine sk (sg ?_) | refine xt (sg ?_) | refine lx (g := sg ?_) | refine ct (hx := ?_) | refine cf (hy := ?_) | refine lr (g := sg ?_) | refine rt (sg ?_) | refine rt ?_ | refine sk ?_ | refine xt ?_ | refine f1 (g := sg ?_) | refine f2 (g := sg ?_) | refine f3 (g := sg ?_) | refine And.intro (by first | assumption | omega) ?_
    refine cl [] (sg ?_)
    refine (c79n _ v).mono ?_
    rintro r bx ⟨rfl, rfl⟩
    refine sg ?_
    repeat first | refine nx ?_ | refine sq fun _ _ => ?_ | refine rg (sg ?_) | refine bl ?_ | refine sk (sg ?_) | refine xt (sg ?_) | refine lx (g := sg ?_) | refine ct (hx := ?_) | refine cf (hy := ?_) | refine lr (g := sg ?_) | refine rt (sg ?_) | refine rt ?_ | refine sk ?_ | refine xt ?_ | refine f1 (g := sg ?_) | refine f2 (g := sg ?_) | refine f3 (g := sg ?_) | refine And.intro (by first | assumption | omega) ?_
    refine lp [1, 5] [0] (fun k' σ => σ = ⟨138, 0, [(1, .one (.ptr 0 0)), (5, .int .i64 0)], [.var ((cPr (prA 3 v)).map L.c) 38]⟩) 0 rfl ?_
    rintro k' σ' rfl Q1 hQ1
    simp only [cPr, lc, List.map_cons, List.map_nil, List.length_nil]
    repeat first | refine nx ?_ | refine sq fun _ _ => ?_ | refine rg (sg ?_) | refine bl ?_ | refine sk (sg ?_) | refine xt (sg ?_) | refine lx (g := sg ?_) | refine ct (hx := ?_) | refine cf (hy := ?_) | refine lr (g := sg ?_) | refine rt (sg ?_) | refine rt ?_ | refine sk ?_ | refine xt ?_ | refine f1 (g := sg ?_) | refine f2 (g := sg ?_) | refine f3 (g := sg ?_) | refine And.intro (by first | assumption | omega) ?_
    exact ax [] ⟨rfl, rfl⟩
  · refine enter (rs := [.tmp 2]) mx Tryd.func157 Tryd.ntmps157 fun Q0 hQ0 => ?_
    simp only [cPr, lc, List.map_cons, List.map_nil, List.length_nil]
    repeat first | refine nx ?_ | refine sq fun _ _ => ?_ | refine rg (sg ?_) | refine bl ?_ | refine sk (sg ?_) | refine xt (sg ?_) | refine lx (g := sg ?_) | refine ct (hx := ?_) | refine cf (hy := ?_) | refine lr (g := sg ?_) | refine rt (sg ?_) | refine rt ?_ | refine sk ?_ | refine xt ?_ | refine f1 (g := sg ?_) | refine f2 (g := sg ?_) | refine f3 (g := sg ?_) | refine And.intro (by first | assumption | omega) ?_
    refine cl [] (sg ?_)
    refine (c40 bA bA_ok).mono ?_
    rintro r bx ⟨rfl, rfl⟩
    refine sg ?_
    refine cl [] (sg ?_)
    refine (c122 1 false ⟨false, v, ⟨#[]⟩⟩ (okC_num v)).mono ?_
    rintro r bx ⟨rfl, rfl⟩
    refine sg ?_
    repeat first | refine nx ?_ | refine sq fun _ _ => ?_ | refine rg (sg ?_) | refine bl ?_ | refine sk (sg ?_) | refine xt (sg ?_) | refine lx (g := sg ?_) | refine ct (hx := ?_) | refine cf (hy := ?_) | refine lr (g := sg ?_) | refine rt (sg ?_) | refine rt ?_ | refine sk ?_ | refine xt ?_ | refine f1 (g := sg ?_) | refine f2 (g := sg ?_) | refine f3 (g := sg ?_) | refine And.intro (by first | assumption | omega) ?_
    refine cl [] (sg ?_)
    refine (c79n _ v).mono ?_
    rintro r bx ⟨rfl, rfl⟩
    refine sg ?_
    repeat first | refine nx ?_ | refine sq fun _ _ => ?_ | refine rg (sg ?_) | refine bl ?_ | refine sk (sg ?_) | refine xt (sg ?_) | refine lx (g := sg ?_) | refine ct (hx := ?_) | refine cf (hy := ?_) | refine lr (g := sg ?_) | refine rt (sg ?_) | refine rt ?_ | refine sk ?_ | refine xt ?_ | refine f1 (g := sg ?_) | refine f2 (g := sg ?_) | refine f3 (g := sg ?_) | refine And.intro (by first | assumption | omega) ?_
    refine lp [1, 5] [0] (fun k' σ => σ = ⟨138, 0, [(1, .one (.ptr 0 0)), (5, .int .i64 0)], [.var ((cPr (prA 6 v)).map L.c) 38]⟩) 0 rfl ?_
    rintro k' σ' rfl Q1 hQ1
    simp only [cPr, lc, List.map_cons, List.map_nil, List.length_nil]
    repeat first | refine nx ?_ | refine sq fun _ _ => ?_ | refine rg (sg ?_) | refine bl ?_ | refine sk (sg ?_) | refine xt (sg ?_) | refine lx (g := sg ?_) | refine ct (hx := ?_) | refine cf (hy := ?_) | refine lr (g := sg ?_) | refine rt (sg ?_) | refine rt ?_ | refine sk ?_ | refine xt ?_ | refine f1 (g := sg ?_) | refine f2 (g := sg ?_) | refine f3 (g := sg ?_) | refine And.intro (by first | assumption | omega) ?_
    exact ax [] ⟨rfl, rfl⟩
theorem c123 (m v : Int) (hm : m = 3 ∨ m = 6) : PC Tryd.prog 123 [.agg (lc (cPr (prA m v)))] [] (fun r bx => r = .bool true ∧ bx = []) := by
  refine enter (rs := [.tmp 2]) mx Tryd.func123 Tryd.ntmps123 fun Q0 hQ0 => ?_
  simp only [cPr, lc, List.map_cons, List.map_nil, List.length_nil]
  repeat first | refine nx ?_ | refine sq fun _ _ => ?_ | refine rg (sg ?_) | refine bl ?_ | refine sk (sg ?_) | refine xt (sg ?_) | refine lx (g := sg ?_) | refine ct (hx := ?_) | refine cf (hy := ?_) | refine lr (g := sg ?_) | refine rt (sg ?_) | refine rt ?_ | refine sk ?_ | refine xt ?_ | refine f1 (g := sg ?_) | refine f2 (g := sg ?_) | refine f3 (g := sg ?_) | refine And.intro (by first | assumption | omega) ?_
  refine cl [] (sg ?_)
  refine (c156 m v).mono ?_
  rintro r bx ⟨rfl, rfl⟩
  refine sg ?_
  refine cl [] (sg ?_)
  refine (c157 m v hm).mono ?_
  rintro r bx ⟨rfl, rfl⟩
  refine sg ?_
  repeat first | refine nx ?_ | refine sq fun _ _ => ?_ | refine rg (sg ?_) | refine bl ?_ | refine sk (sg ?_) | refine xt (sg ?_) | refine lx (g := sg ?_) | refine ct (hx := ?_) | refine cf (hy := ?_) | refine lr (g := sg ?_) | refine rt (sg ?_) | refine rt ?_ | refine sk ?_ | refine xt ?_ | refine f1 (g := sg ?_) | refine f2 (g := sg ?_) | refine f3 (g := sg ?_) | refine And.intro (by first | assumption | omega) ?_
  exact ax [] ⟨rfl, rfl⟩
end Go.Proofs.YtdedmhmomoejkaaDoor.V
