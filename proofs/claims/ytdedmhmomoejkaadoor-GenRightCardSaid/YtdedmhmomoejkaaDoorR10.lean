import Derived.Test.YtdedmhmomoejkaaDoorR9
namespace Go.Proofs.YtdedmhmomoejkaaDoor.V
open Go Go.RowKit Go.Proofs.YtdedmhmomoejkaaDoorW.PrintLast
open Go.Proofs
set_option linter.unusedVariables false
set_option linter.unusedSimpArgs false
attribute [local irreducible] awp
--IMP R9
set_option maxRecDepth 100000
theorem c88e (l : List Co) (hl : l.length ≤ 1000) (hK : okK l) : PC Tryd.prog 88 [.one (.c (rowA 3 cCo l)), .str ⟨#[]⟩] [] (fun r bx => r = .int .i64 (-1) ∧ bx = []) := by
  refine (c88 l ⟨#[]⟩ hl).mono ?_
  rintro r bx ⟨rfl, ⟨rfl, hall⟩ | ⟨i, hi, rfl, hn, hall⟩⟩
  · exact ⟨rfl, rfl⟩
  · have h1 := (hK.1 _ (List.getElem_mem hi)).1.2.2.1
    rw [hn] at h1
    exact absurd h1 (by decide)
set_option maxHeartbeats 4000000 in
theorem c85 (c : List Co) (nm : ByteArray) (v : Int) (l : List Ae) (hn : okN nm) (hl : l.length ≤ 4) (ha : ∀ x ∈ l, okAg x) (hA : okA c) (hK : okK c) : PC Tryd.prog 85 [.one (.c (rowA 3 cCo c)), .agg (lc (cQu (quA nm v l)))] [] (fun r bx => r = .int .i64 0 ∧ bx = []) := by
  have hcl : c.length ≤ 1000 := by have := hK.2.2.2; omega
  refine enter (rs := [.tmp 4]) mx Tryd.func85 Tryd.ntmps85 fun Q0 hQ0 => ?_
  obtain ⟨h0, h1, h2⟩ := id hA
  have he0 := el_at (f := cCo) h0
  have he1 : elemsOf (c.map cCo) 0 1 = .v (.int .i64 1) := by
    rw [he0]
    show C.v (.int .i64 c[0].ty) = _
    rw [h2]
  simp only [lc_quA]
  unfold rowA
  repeat first | refine nx ?_ | refine sq fun _ _ => ?_ | refine rg (sg ?_) | refine bl ?_ | refine sk (sg ?_) | refine xt (sg ?_) | refine lx (g := sg ?_) | refine ct (hx := ?_) | refine cf (hy := ?_) | refine lr (g := sg ?_) | refine rt (sg ?_) | refine rt ?_ | refine sk ?_ | refine xt ?_ | refine f1 (g := sg ?_) | refine f2 (g := sg ?_) | refine f3 (g := sg ?_) | refine And.intro (by first | assumption | omega) ?_
  refine cl [] (sg ?_)
  refine (c128 nm v l hn hl ha).mono ?_
  rintro r bx ⟨rfl, rfl⟩
  refine sg ?_
  refine cl [] (sg ?_)
  refine (c43 c hK).mono ?_
  rintro r bx ⟨rfl, rfl⟩
  refine sg ?_
  repeat first | refine nx ?_ | refine sq fun _ _ => ?_ | refine rg (sg ?_) | refine bl ?_ | refine sk (sg ?_) | refine xt (sg ?_) | refine lx (g := sg ?_) | refine ct (hx := ?_) | refine cf (hy := ?_) | refine lr (g := sg ?_) | refine rt (sg ?_) | refine rt ?_ | refine sk ?_ | refine xt ?_ | refine f1 (g := sg ?_) | refine f2 (g := sg ?_) | refine f3 (g := sg ?_) | refine And.intro (by first | assumption | omega) ?_
  refine cl [] (sg ?_)
  refine (c83 c 6 v (.inr rfl) hA hK).mono ?_
  rintro r bx ⟨rfl, rfl⟩
  refine sg ?_
  simp only [undef]
  refine sg ?_
  repeat first | refine nx ?_ | refine sq fun _ _ => ?_ | refine rg (sg ?_) | refine bl ?_ | refine sk (sg ?_) | refine xt (sg ?_) | refine lx (g := sg ?_) | refine ct (hx := ?_) | refine cf (hy := ?_) | refine lr (g := sg ?_) | refine rt (sg ?_) | refine rt ?_ | refine sk ?_ | refine xt ?_ | refine f1 (g := sg ?_) | refine f2 (g := sg ?_) | refine f3 (g := sg ?_) | refine And.intro (by first | assumption | omega) ?_
  refine lp [0, 3, 5] [0] (fun k' σ => σ = ⟨91, 0, [(0, .one (.c (.sl c.length 3 (elemsOf (c.map cCo))))), (3, .one (.ptr 0 0)), (5, .int .i64 0)], [.var (lc (cQu (quA nm v l))) 42]⟩) 0 rfl ?_
  rintro k' σ' rfl Q1 hQ1
  simp only [lc_quA]
  repeat first | refine nx ?_ | refine sq fun _ _ => ?_ | refine rg (sg ?_) | refine bl ?_ | refine sk (sg ?_) | refine xt (sg ?_) | refine lx (g := sg ?_) | refine ct (hx := ?_) | refine cf (hy := ?_) | refine lr (g := sg ?_) | refine rt (sg ?_) | refine rt ?_ | refine sk ?_ | refine xt ?_ | refine f1 (g := sg ?_) | refine f2 (g := sg ?_) | refine f3 (g := sg ?_) | refine And.intro (by first | assumption | omega) ?_
  refine lp [0, 3, 6] [0] (fun k σ => ∃ i : Nat, k = l.length - i ∧ i ≤ l.length ∧ σ = ⟨91, 0, [(0, .one (.c (.sl c.length 3 (elemsOf (c.map cCo))))), (3, .one (.ptr 0 0)), (6, .int .i64 i)], [.var (lc (cQu (quA nm v l))) 42]⟩) l.length ?_ ?_
  · exact ⟨0, by omega, by omega, rfl⟩
  · rintro k σ' ⟨i, hk, hi, rfl⟩ Q2 hQ2
    simp only [lc_quA]
    repeat first | refine nx ?_ | refine sq fun _ _ => ?_ | refine rg (sg ?_) | refine bl ?_ | refine sk (sg ?_) | refine xt (sg ?_) | refine lx (g := sg ?_) | refine ct (hx := ?_) | refine cf (hy := ?_) | refine lr (g := sg ?_) | refine rt (sg ?_) | refine rt ?_ | refine sk ?_ | refine xt ?_ | refine f1 (g := sg ?_) | refine f2 (g := sg ?_) | refine f3 (g := sg ?_) | refine And.intro (by first | assumption | omega) ?_
    refine cb (fun h => ?_) (fun h => ?_)
    · have hin : i < l.length := by omega
      have hwi : IntKind.i64.wrap ((i : Int) + 1) = ((i + 1 : Nat) : Int) := by rw [IntKind.wrap_i64]; omega
      have he := el_at (f := cAe) hin
      have hai := ha _ (List.getElem_mem hin)
      rcases hx : l[i] with ⟨op, col⟩
      rw [hx] at he hai
      rcases hai with ⟨h3, h4⟩ | ⟨h3, h4⟩
      · have h3 : op = 1 := h3
        have h4 : col = ⟨#[]⟩ := h4
        subst h3 h4
        repeat first | refine nx ?_ | refine sq fun _ _ => ?_ | refine rg (sg ?_) | refine bl ?_ | refine sk (sg ?_) | refine xt (sg ?_) | refine lx (g := sg ?_) | refine ct (hx := ?_) | refine cf (hy := ?_) | refine lr (g := sg ?_) | refine rt (sg ?_) | refine rt ?_ | refine sk ?_ | refine xt ?_ | refine f1 (g := sg ?_) | refine f2 (g := sg ?_) | refine f3 (g := sg ?_) | refine And.intro (by first | assumption | omega) ?_
        simp only [he]
        refine sg ?_
        refine cl [] (sg ?_)
        refine (c88e c hcl hK).mono ?_
        rintro r bx ⟨rfl, rfl⟩
        refine sg ?_
        repeat first | refine nx ?_ | refine sq fun _ _ => ?_ | refine rg (sg ?_) | refine bl ?_ | refine sk (sg ?_) | refine xt (sg ?_) | refine lx (g := sg ?_) | refine ct (hx := ?_) | refine cf (hy := ?_) | refine lr (g := sg ?_) | refine rt (sg ?_) | refine rt ?_ | refine sk ?_ | refine xt ?_ | refine f1 (g := sg ?_) | refine f2 (g := sg ?_) | refine f3 (g := sg ?_) | refine And.intro (by first | assumption | omega) ?_
        simp only [he, Bool.false_and]
        refine sg ?_
        simp only [he1]
        refine sg ?_
        repeat first | refine nx ?_ | refine sq fun _ _ => ?_ | refine rg (sg ?_) | refine bl ?_ | refine sk (sg ?_) | refine xt (sg ?_) | refine lx (g := sg ?_) | refine ct (hx := ?_) | refine cf (hy := ?_) | refine lr (g := sg ?_) | refine rt (sg ?_) | refine rt ?_ | refine sk ?_ | refine xt ?_ | refine f1 (g := sg ?_) | refine f2 (g := sg ?_) | refine f3 (g := sg ?_) | refine And.intro (by first | assumption | omega) ?_
        refine ln (l.length - (i + 1)) [0] ?_ ?_
        · omega
        refine ⟨i + 1, rfl, by omega, ?_⟩
        rw [← hwi]
        rfl
      · have h3 : op = 3 := h3
        have h4 : col = bA := h4
        subst h3 h4
        repeat first | refine nx ?_ | refine sq fun _ _ => ?_ | refine rg (sg ?_) | refine bl ?_ | refine sk (sg ?_) | refine xt (sg ?_) | refine lx (g := sg ?_) | refine ct (hx := ?_) | refine cf (hy := ?_) | refine lr (g := sg ?_) | refine rt (sg ?_) | refine rt ?_ | refine sk ?_ | refine xt ?_ | refine f1 (g := sg ?_) | refine f2 (g := sg ?_) | refine f3 (g := sg ?_) | refine And.intro (by first | assumption | omega) ?_
        simp only [he]
        refine sg ?_
        refine cl [] (sg ?_)
        refine (c88a c hA hcl).mono ?_
        rintro r bx ⟨rfl, rfl⟩
        refine sg ?_
        repeat first | refine nx ?_ | refine sq fun _ _ => ?_ | refine rg (sg ?_) | refine bl ?_ | refine sk (sg ?_) | refine xt (sg ?_) | refine lx (g := sg ?_) | refine ct (hx := ?_) | refine cf (hy := ?_) | refine lr (g := sg ?_) | refine rt (sg ?_) | refine rt ?_ | refine sk ?_ | refine xt ?_ | refine f1 (g := sg ?_) | refine f2 (g := sg ?_) | refine f3 (g := sg ?_) | refine And.intro (by first | assumption | omega) ?_
        simp only [he, he1]
        refine sg ?_
        repeat first | refine nx ?_ | refine sq fun _ _ => ?_ | refine rg (sg ?_) | refine bl ?_ | refine sk (sg ?_) | refine xt (sg ?_) | refine lx (g := sg ?_) | refine ct (hx := ?_) | refine cf (hy := ?_) | refine lr (g := sg ?_) | refine rt (sg ?_) | refine rt ?_ | refine sk ?_ | refine xt ?_ | refine f1 (g := sg ?_) | refine f2 (g := sg ?_) | refine f3 (g := sg ?_) | refine And.intro (by first | assumption | omega) ?_
        refine ln (l.length - (i + 1)) [0] ?_ ?_
        · omega
        refine ⟨i + 1, rfl, by omega, ?_⟩
        rw [← hwi]
        rfl
    · repeat first | refine nx ?_ | refine sq fun _ _ => ?_ | refine rg (sg ?_) | refine bl ?_ | refine sk (sg ?_) | refine xt (sg ?_) | refine lx (g := sg ?_) | refine ct (hx := ?_) | refine cf (hy := ?_) | refine lr (g := sg ?_) | refine rt (sg ?_) | refine rt ?_ | refine sk ?_ | refine xt ?_ | refine f1 (g := sg ?_) | refine f2 (g := sg ?_) | refine f3 (g := sg ?_) | refine And.intro (by first | assumption | omega) ?_
      exact ax [] ⟨rfl, rfl⟩
end Go.Proofs.YtdedmhmomoejkaaDoor.V
