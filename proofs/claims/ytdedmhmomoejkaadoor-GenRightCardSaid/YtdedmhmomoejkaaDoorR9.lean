import Derived.Test.YtdedmhmomoejkaaDoorR8
namespace Go.Proofs.YtdedmhmomoejkaaDoor.V
open Go Go.RowKit Go.Proofs.YtdedmhmomoejkaaDoorW.PrintLast
open Go.Proofs
set_option linter.unusedVariables false
set_option linter.unusedSimpArgs false
attribute [local irreducible] awp
--IMP R8
set_option maxRecDepth 100000
def okAg (x : Ae) : Prop := (x.op = 1 ∧ x.col = ⟨#[]⟩) ∨ (x.op = 3 ∧ x.col = bA)
theorem c159 (x : Ae) (h : okAg x) : PC Tryd.prog 159 [.agg (lc (cAe x))] [] (fun r bx => r = .bool true ∧ bx = []) := by
  refine enter (rs := [.tmp 2]) mx Tryd.func159 Tryd.ntmps159 fun Q0 hQ0 => ?_
  obtain ⟨op, col⟩ := x
  simp only [cAe, lc, List.map_cons, List.map_nil]
  rcases h with ⟨h1, h2⟩ | ⟨h1, h2⟩
  · have h1 : op = 1 := h1
    have h2 : col = ⟨#[]⟩ := h2
    subst h1 h2
    repeat first | refine nx ?_ | refine sq fun _ _ => ?_ | refine rg (sg ?_) | refine bl ?_ | refine sk (sg ?_) | refine xt (sg ?_) | refine lx (g := sg ?_) | refine ct (hx := ?_) | refine cf (hy := ?_) | refine lr (g := sg ?_) | refine rt (sg ?_) | refine rt ?_ | refine sk ?_ | refine xt ?_ | refine f1 (g := sg ?_) | refine f2 (g := sg ?_) | refine f3 (g := sg ?_) | refine And.intro (by first | assumption | omega) ?_
    exact ax [] ⟨rfl, rfl⟩
  · have h1 : op = 3 := h1
    have h2 : col = bA := h2
    subst h1 h2
    repeat first | refine nx ?_ | refine sq fun _ _ => ?_ | refine rg (sg ?_) | refine bl ?_ | refine sk (sg ?_) | refine xt (sg ?_) | refine lx (g := sg ?_) | refine ct (hx := ?_) | refine cf (hy := ?_) | refine lr (g := sg ?_) | refine rt (sg ?_) | refine rt ?_ | refine sk ?_ | refine xt ?_ | refine f1 (g := sg ?_) | refine f2 (g := sg ?_) | refine f3 (g := sg ?_) | refine And.intro (by first | assumption | omega) ?_
    refine cl [] (sg ?_)
    refine (c40 bA bA_ok).mono ?_
    rintro r bx ⟨rfl, rfl⟩
    refine sg ?_
    repeat first | refine nx ?_ | refine sq fun _ _ => ?_ | refine rg (sg ?_) | refine bl ?_ | refine sk (sg ?_) | refine xt (sg ?_) | refine lx (g := sg ?_) | refine ct (hx := ?_) | refine cf (hy := ?_) | refine lr (g := sg ?_) | refine rt (sg ?_) | refine rt ?_ | refine sk ?_ | refine xt ?_ | refine f1 (g := sg ?_) | refine f2 (g := sg ?_) | refine f3 (g := sg ?_) | refine And.intro (by first | assumption | omega) ?_
    exact ax [] ⟨rfl, rfl⟩
/-- A drawn scan's query. -/
abbrev quA (nm : ByteArray) (v : Int) (l : List Ae) : Qu := ⟨nm, [], prA 6 v, l, ⟨#[]⟩⟩
theorem lc_quA (nm : ByteArray) (v : Int) (l : List Ae) : lc (cQu (quA nm v l)) = [.c (.v (.string nm)), .c (.sl 0 1 (elemsOf [])), .c (.v (.int .i64 2)), .c (.v (.string bA)), .c (.v (.int .i64 6)), .c (.v (.bool false)), .c (.v (.int .i64 v)), .c (.v (.string ⟨#[]⟩)), .c (.v (.int .i64 1)), .c (.v (.string ⟨#[]⟩)), .c (.sl 0 9 (elemsOf [])), .c (.sl l.length 2 (elemsOf (l.map cAe))), .c (.v (.string ⟨#[]⟩))] := rfl
set_option maxHeartbeats 4000000 in
theorem c128 (nm : ByteArray) (v : Int) (l : List Ae) (hn : okN nm) (hl : l.length ≤ 4) (ha : ∀ x ∈ l, okAg x) : PC Tryd.prog 128 [.agg (lc (cQu (quA nm v l)))] [] (fun r bx => r = .bool true ∧ bx = []) := by
  refine enter (rs := [.tmp 2]) mx Tryd.func128 Tryd.ntmps128 fun Q0 hQ0 => ?_
  simp only [lc_quA]
  repeat first | refine nx ?_ | refine sq fun _ _ => ?_ | refine rg (sg ?_) | refine bl ?_ | refine sk (sg ?_) | refine xt (sg ?_) | refine lx (g := sg ?_) | refine ct (hx := ?_) | refine cf (hy := ?_) | refine lr (g := sg ?_) | refine rt (sg ?_) | refine rt ?_ | refine sk ?_ | refine xt ?_ | refine f1 (g := sg ?_) | refine f2 (g := sg ?_) | refine f3 (g := sg ?_) | refine And.intro (by first | assumption | omega) ?_
  refine cl [] (sg ?_)
  refine (c40 nm hn).mono ?_
  rintro r bx ⟨rfl, rfl⟩
  refine sg ?_
  refine cl [] (sg ?_)
  refine (c123 6 v (.inr rfl)).mono ?_
  rintro r bx ⟨rfl, rfl⟩
  refine sg ?_
  repeat first | refine nx ?_ | refine sq fun _ _ => ?_ | refine rg (sg ?_) | refine bl ?_ | refine sk (sg ?_) | refine xt (sg ?_) | refine lx (g := sg ?_) | refine ct (hx := ?_) | refine cf (hy := ?_) | refine lr (g := sg ?_) | refine rt (sg ?_) | refine rt ?_ | refine sk ?_ | refine xt ?_ | refine f1 (g := sg ?_) | refine f2 (g := sg ?_) | refine f3 (g := sg ?_) | refine And.intro (by first | assumption | omega) ?_
  refine cb (fun h => ?_) (fun h => ?_)
  · omega
  · repeat first | refine nx ?_ | refine sq fun _ _ => ?_ | refine rg (sg ?_) | refine bl ?_ | refine sk (sg ?_) | refine xt (sg ?_) | refine lx (g := sg ?_) | refine ct (hx := ?_) | refine cf (hy := ?_) | refine lr (g := sg ?_) | refine rt (sg ?_) | refine rt ?_ | refine sk ?_ | refine xt ?_ | refine f1 (g := sg ?_) | refine f2 (g := sg ?_) | refine f3 (g := sg ?_) | refine And.intro (by first | assumption | omega) ?_
    refine lp [1, 3] [0] (fun k' σ => σ = ⟨93, 0, [(1, .one (.ptr 0 0)), (3, .int .i64 0)], [.var (lc (cQu (quA nm v l))) 42]⟩) 0 rfl ?_
    rintro k' σ' rfl Q1 hQ1
    simp only [lc_quA]
    repeat first | refine nx ?_ | refine sq fun _ _ => ?_ | refine rg (sg ?_) | refine bl ?_ | refine sk (sg ?_) | refine xt (sg ?_) | refine lx (g := sg ?_) | refine ct (hx := ?_) | refine cf (hy := ?_) | refine lr (g := sg ?_) | refine rt (sg ?_) | refine rt ?_ | refine sk ?_ | refine xt ?_ | refine f1 (g := sg ?_) | refine f2 (g := sg ?_) | refine f3 (g := sg ?_) | refine And.intro (by first | assumption | omega) ?_
    refine cb (fun h2 => ?_) (fun h2 => ?_)
    · repeat first | refine nx ?_ | refine sq fun _ _ => ?_ | refine rg (sg ?_) | refine bl ?_ | refine sk (sg ?_) | refine xt (sg ?_) | refine lx (g := sg ?_) | refine ct (hx := ?_) | refine cf (hy := ?_) | refine lr (g := sg ?_) | refine rt (sg ?_) | refine rt ?_ | refine sk ?_ | refine xt ?_ | refine f1 (g := sg ?_) | refine f2 (g := sg ?_) | refine f3 (g := sg ?_) | refine And.intro (by first | assumption | omega) ?_
      exact ax [] ⟨rfl, rfl⟩
    · repeat first | refine nx ?_ | refine sq fun _ _ => ?_ | refine rg (sg ?_) | refine bl ?_ | refine sk (sg ?_) | refine xt (sg ?_) | refine lx (g := sg ?_) | refine ct (hx := ?_) | refine cf (hy := ?_) | refine lr (g := sg ?_) | refine rt (sg ?_) | refine rt ?_ | refine sk ?_ | refine xt ?_ | refine f1 (g := sg ?_) | refine f2 (g := sg ?_) | refine f3 (g := sg ?_) | refine And.intro (by first | assumption | omega) ?_
      refine lp [1, 5] [0] (fun k σ => ∃ i : Nat, k = l.length - i ∧ i ≤ l.length ∧ σ = ⟨93, 0, [(1, .one (.ptr 0 0)), (5, .int .i64 i)], [.var (lc (cQu (quA nm v l))) 42]⟩) l.length ?_ ?_
      · exact ⟨0, by omega, by omega, rfl⟩
      · rintro k σ' ⟨i, hk, hi, rfl⟩ Q2 hQ2
        simp only [lc_quA]
        repeat first | refine nx ?_ | refine sq fun _ _ => ?_ | refine rg (sg ?_) | refine bl ?_ | refine sk (sg ?_) | refine xt (sg ?_) | refine lx (g := sg ?_) | refine ct (hx := ?_) | refine cf (hy := ?_) | refine lr (g := sg ?_) | refine rt (sg ?_) | refine rt ?_ | refine sk ?_ | refine xt ?_ | refine f1 (g := sg ?_) | refine f2 (g := sg ?_) | refine f3 (g := sg ?_) | refine And.intro (by first | assumption | omega) ?_
        refine cb (fun h => ?_) (fun h => ?_)
        · have hin : i < l.length := by omega
          have hwi : IntKind.i64.wrap ((i : Int) + 1) = ((i + 1 : Nat) : Int) := by rw [IntKind.wrap_i64]; omega
          have he := el_at (f := cAe) hin
          repeat first | refine nx ?_ | refine sq fun _ _ => ?_ | refine rg (sg ?_) | refine bl ?_ | refine sk (sg ?_) | refine xt (sg ?_) | refine lx (g := sg ?_) | refine ct (hx := ?_) | refine cf (hy := ?_) | refine lr (g := sg ?_) | refine rt (sg ?_) | refine rt ?_ | refine sk ?_ | refine xt ?_ | refine f1 (g := sg ?_) | refine f2 (g := sg ?_) | refine f3 (g := sg ?_) | refine And.intro (by first | assumption | omega) ?_
          simp only [he]
          refine sg ?_
          repeat first | refine nx ?_ | refine sq fun _ _ => ?_ | refine rg (sg ?_) | refine bl ?_ | refine sk (sg ?_) | refine xt (sg ?_) | refine lx (g := sg ?_) | refine ct (hx := ?_) | refine cf (hy := ?_) | refine lr (g := sg ?_) | refine rt (sg ?_) | refine rt ?_ | refine sk ?_ | refine xt ?_ | refine f1 (g := sg ?_) | refine f2 (g := sg ?_) | refine f3 (g := sg ?_) | refine And.intro (by first | assumption | omega) ?_
          refine cl [] (sg ?_)
          refine (c159 _ (ha _ (List.getElem_mem hin))).mono ?_
          rintro r bx ⟨rfl, rfl⟩
          refine sg ?_
          repeat first | refine nx ?_ | refine sq fun _ _ => ?_ | refine rg (sg ?_) | refine bl ?_ | refine sk (sg ?_) | refine xt (sg ?_) | refine lx (g := sg ?_) | refine ct (hx := ?_) | refine cf (hy := ?_) | refine lr (g := sg ?_) | refine rt (sg ?_) | refine rt ?_ | refine sk ?_ | refine xt ?_ | refine f1 (g := sg ?_) | refine f2 (g := sg ?_) | refine f3 (g := sg ?_) | refine And.intro (by first | assumption | omega) ?_
          refine ln (l.length - (i + 1)) [0] ?_ ?_
          · omega
          refine ⟨i + 1, rfl, by omega, ?_⟩
          rw [← hwi]
          rfl
        · repeat first | refine nx ?_ | refine sq fun _ _ => ?_ | refine rg (sg ?_) | refine bl ?_ | refine sk (sg ?_) | refine xt (sg ?_) | refine lx (g := sg ?_) | refine ct (hx := ?_) | refine cf (hy := ?_) | refine lr (g := sg ?_) | refine rt (sg ?_) | refine rt ?_ | refine sk ?_ | refine xt ?_ | refine f1 (g := sg ?_) | refine f2 (g := sg ?_) | refine f3 (g := sg ?_) | refine And.intro (by first | assumption | omega) ?_
          simp only [undef]
          refine sg ?_
          repeat first | refine nx ?_ | refine sq fun _ _ => ?_ | refine rg (sg ?_) | refine bl ?_ | refine sk (sg ?_) | refine xt (sg ?_) | refine lx (g := sg ?_) | refine ct (hx := ?_) | refine cf (hy := ?_) | refine lr (g := sg ?_) | refine rt (sg ?_) | refine rt ?_ | refine sk ?_ | refine xt ?_ | refine f1 (g := sg ?_) | refine f2 (g := sg ?_) | refine f3 (g := sg ?_) | refine And.intro (by first | assumption | omega) ?_
          exact ax [] ⟨rfl, rfl⟩
end Go.Proofs.YtdedmhmomoejkaaDoor.V
