import Derived.Test.YtdedmhmomoejkaaDoorR6
namespace Go.Proofs.YtdedmhmomoejkaaDoor.V
open Go Go.RowKit Go.Proofs.YtdedmhmomoejkaaDoorW.PrintLast
open Go.Proofs
set_option linter.unusedVariables false
set_option linter.unusedSimpArgs false
attribute [local irreducible] awp
--IMP R6
set_option maxRecDepth 100000
/-- The first column is a, of numbers. -/
def okA (l : List Co) : Prop := ∃ h : 0 < l.length, l[0].nm = bA ∧ l[0].ty = 1
theorem c88a (l : List Co) (h : okA l) (hl : l.length ≤ 1000) : PC Tryd.prog 88 [.one (.c (rowA 3 cCo l)), .str bA] [] (fun r bx => r = .int .i64 0 ∧ bx = []) := by
  obtain ⟨h0, h1, h2⟩ := h
  refine (c88 l bA hl).mono ?_
  rintro r bx ⟨rfl, ⟨rfl, hall⟩ | ⟨i, hi, rfl, hn, hall⟩⟩
  · exact absurd h1 (hall 0 h0)
  · have : i = 0 := by
      rcases Nat.eq_zero_or_pos i with h | h
      · exact h
      · exact absurd h1 (hall 0 h)
    subst this
    exact ⟨rfl, rfl⟩
set_option maxHeartbeats 2000000 in
theorem c124 (l : List Co) (m v : Int) (h : okA l) (hl : l.length ≤ 1000) : PC Tryd.prog 124 [.one (.c (rowA 3 cCo l)), .agg (lc (cPr (prA m v)))] [] (fun r bx => r = .bool true ∧ bx = []) := by
  refine enter (rs := [.tmp 4]) mx Tryd.func124 Tryd.ntmps124 fun Q0 hQ0 => ?_
  simp only [rowA, cPr, lc, List.map_cons, List.map_nil, List.length_nil]
  have hA := h
  obtain ⟨h0, h1, h2⟩ := h
  have he := el_at (f := cCo) h0
  repeat first | refine nx ?_ | refine sq fun _ _ => ?_ | refine rg (sg ?_) | refine bl ?_ | refine sk (sg ?_) | refine xt (sg ?_) | refine lx (g := sg ?_) | refine ct (hx := ?_) | refine cf (hy := ?_) | refine lr (g := sg ?_) | refine rt (sg ?_) | refine rt ?_ | refine sk ?_ | refine xt ?_ | refine f1 (g := sg ?_) | refine f2 (g := sg ?_) | refine f3 (g := sg ?_) | refine And.intro (by first | assumption | omega) ?_
  refine cl [] (sg ?_)
  refine (c88a l hA hl).mono ?_
  rintro r bx ⟨rfl, rfl⟩
  refine sg ?_
  repeat first | refine nx ?_ | refine sq fun _ _ => ?_ | refine rg (sg ?_) | refine bl ?_ | refine sk (sg ?_) | refine xt (sg ?_) | refine lx (g := sg ?_) | refine ct (hx := ?_) | refine cf (hy := ?_) | refine lr (g := sg ?_) | refine rt (sg ?_) | refine rt ?_ | refine sk ?_ | refine xt ?_ | refine f1 (g := sg ?_) | refine f2 (g := sg ?_) | refine f3 (g := sg ?_) | refine And.intro (by first | assumption | omega) ?_
  refine dr [.take 0, .take 1, .take 2, .take 3, .take 4, .take 5, .take 6, .take 7, .take 8, .take 9, .take 10, .take 11, .take 12, .take 13, .take 14, .take 15, .take 16, .take 17, .take 18, .take 19, .take 20, .take 21, .take 22, .take 23, .take 24, .take 25, .take 26, .take 27, .take 28, .take 29] [] (sg ?_)
  have he1 : elemsOf (l.map cCo) 0 1 = .v (.int .i64 1) := by
    rw [he]
    show C.v (.int .i64 l[0].ty) = _
    rw [h2]
  simp only [he1]
  refine sg ?_
  refine ⟨by omega, ?_⟩
  simp only [he1]
  refine sg ?_
  repeat first | refine nx ?_ | refine sq fun _ _ => ?_ | refine rg (sg ?_) | refine bl ?_ | refine sk (sg ?_) | refine xt (sg ?_) | refine lx (g := sg ?_) | refine ct (hx := ?_) | refine cf (hy := ?_) | refine lr (g := sg ?_) | refine rt (sg ?_) | refine rt ?_ | refine sk ?_ | refine xt ?_ | refine f1 (g := sg ?_) | refine f2 (g := sg ?_) | refine f3 (g := sg ?_) | refine And.intro (by first | assumption | omega) ?_
  refine lp [0, 3, 6] [0] (fun k' σ => σ = ⟨59, 0, [(0, .one (.c (rowA 3 cCo l))), (3, .one (.ptr 0 0)), (6, .int .i64 0)], [.var ((cPr (prA m v)).map L.c) 38]⟩) 0 rfl ?_
  rintro k' σ' rfl Q1 hQ1
  simp only [cPr, lc, List.map_cons, List.map_nil, List.length_nil]
  repeat first | refine nx ?_ | refine sq fun _ _ => ?_ | refine rg (sg ?_) | refine bl ?_ | refine sk (sg ?_) | refine xt (sg ?_) | refine lx (g := sg ?_) | refine ct (hx := ?_) | refine cf (hy := ?_) | refine lr (g := sg ?_) | refine rt (sg ?_) | refine rt ?_ | refine sk ?_ | refine xt ?_ | refine f1 (g := sg ?_) | refine f2 (g := sg ?_) | refine f3 (g := sg ?_) | refine And.intro (by first | assumption | omega) ?_
  exact ax [] ⟨rfl, rfl⟩
theorem c83 (l : List Co) (m v : Int) (hm : m = 3 ∨ m = 6) (h : okA l) (hk : okK l) : PC Tryd.prog 83 [.one (.c (rowA 3 cCo l)), .agg (lc (cPr (prA m v)))] [] (fun r bx => r = .int .i64 0 ∧ bx = []) := by
  refine enter (rs := [.tmp 4]) mx Tryd.func83 Tryd.ntmps83 fun Q0 hQ0 => ?_
  simp only [cPr, lc, List.map_cons, List.map_nil, List.length_nil]
  have hl : l.length ≤ 1000 := by have := hk.2.2.2; omega
  repeat first | refine nx ?_ | refine sq fun _ _ => ?_ | refine rg (sg ?_) | refine bl ?_ | refine sk (sg ?_) | refine xt (sg ?_) | refine lx (g := sg ?_) | refine ct (hx := ?_) | refine cf (hy := ?_) | refine lr (g := sg ?_) | refine rt (sg ?_) | refine rt ?_ | refine sk ?_ | refine xt ?_ | refine f1 (g := sg ?_) | refine f2 (g := sg ?_) | refine f3 (g := sg ?_) | refine And.intro (by first | assumption | omega) ?_
  refine cl [] (sg ?_)
  refine (c123 m v hm).mono ?_
  rintro r bx ⟨rfl, rfl⟩
  refine sg ?_
  refine cl [] (sg ?_)
  refine (c43 l hk).mono ?_
  rintro r bx ⟨rfl, rfl⟩
  refine sg ?_
  repeat first | refine nx ?_ | refine sq fun _ _ => ?_ | refine rg (sg ?_) | refine bl ?_ | refine sk (sg ?_) | refine xt (sg ?_) | refine lx (g := sg ?_) | refine ct (hx := ?_) | refine cf (hy := ?_) | refine lr (g := sg ?_) | refine rt (sg ?_) | refine rt ?_ | refine sk ?_ | refine xt ?_ | refine f1 (g := sg ?_) | refine f2 (g := sg ?_) | refine f3 (g := sg ?_) | refine And.intro (by first | assumption | omega) ?_
  refine cl [] (sg ?_)
  refine (c124 l m v h hl).mono ?_
  rintro r bx ⟨rfl, rfl⟩
  refine sg ?_
  repeat first | refine nx ?_ | refine sq fun _ _ => ?_ | refine rg (sg ?_) | refine bl ?_ | refine sk (sg ?_) | refine xt (sg ?_) | refine lx (g := sg ?_) | refine ct (hx := ?_) | refine cf (hy := ?_) | refine lr (g := sg ?_) | refine rt (sg ?_) | refine rt ?_ | refine sk ?_ | refine xt ?_ | refine f1 (g := sg ?_) | refine f2 (g := sg ?_) | refine f3 (g := sg ?_) | refine And.intro (by first | assumption | omega) ?_
  exact ax [] ⟨rfl, rfl⟩
theorem c126 (x y : Ce) (op : Int) : PC Tryd.prog 126 [aCe x, .int .i64 op, aCe y] [] (fun r bx => (∃ b, r = .bool b) ∧ bx = []) := by
  refine enter (rs := [.tmp 6]) mx Tryd.func126 Tryd.ntmps126 fun Q0 hQ0 => ?_
  repeat first | refine nx ?_ | refine sq fun _ _ => ?_ | refine rg (sg ?_) | refine bl ?_ | refine sk (sg ?_) | refine xt (sg ?_) | refine lx (g := sg ?_) | refine ct (hx := ?_) | refine cf (hy := ?_) | refine lr (g := sg ?_) | refine rt (sg ?_) | refine rt ?_ | refine sk ?_ | refine xt ?_ | refine f1 (g := sg ?_) | refine f2 (g := sg ?_) | refine f3 (g := sg ?_) | refine And.intro (by first | assumption | omega) ?_
  refine cl [] (sg ?_)
  refine (c130 x y).mono ?_
  rintro r bx ⟨⟨k, rfl⟩, rfl⟩
  refine sg ?_
  repeat first | refine nx ?_ | refine sq fun _ _ => ?_ | refine rg (sg ?_) | refine bl ?_ | refine sk (sg ?_) | refine xt (sg ?_) | refine lx (g := sg ?_) | refine ct (hx := ?_) | refine cf (hy := ?_) | refine lr (g := sg ?_) | refine rt (sg ?_) | refine rt ?_ | refine sk ?_ | refine xt ?_ | refine f1 (g := sg ?_) | refine f2 (g := sg ?_) | refine f3 (g := sg ?_) | refine And.intro (by first | assumption | omega) ?_
  refine cb (fun h => ?_) (fun h => ?_)
  · repeat first | refine nx ?_ | refine sq fun _ _ => ?_ | refine rg (sg ?_) | refine bl ?_ | refine sk (sg ?_) | refine xt (sg ?_) | refine lx (g := sg ?_) | refine ct (hx := ?_) | refine cf (hy := ?_) | refine lr (g := sg ?_) | refine rt (sg ?_) | refine rt ?_ | refine sk ?_ | refine xt ?_ | refine f1 (g := sg ?_) | refine f2 (g := sg ?_) | refine f3 (g := sg ?_) | refine And.intro (by first | assumption | omega) ?_
    exact ax [] ⟨⟨_, rfl⟩, rfl⟩
  · repeat first | refine nx ?_ | refine sq fun _ _ => ?_ | refine rg (sg ?_) | refine bl ?_ | refine sk (sg ?_) | refine xt (sg ?_) | refine lx (g := sg ?_) | refine ct (hx := ?_) | refine cf (hy := ?_) | refine lr (g := sg ?_) | refine rt (sg ?_) | refine rt ?_ | refine sk ?_ | refine xt ?_ | refine f1 (g := sg ?_) | refine f2 (g := sg ?_) | refine f3 (g := sg ?_) | refine And.intro (by first | assumption | omega) ?_
    refine cb (fun h => ?_) (fun h => ?_)
    · repeat first | refine nx ?_ | refine sq fun _ _ => ?_ | refine rg (sg ?_) | refine bl ?_ | refine sk (sg ?_) | refine xt (sg ?_) | refine lx (g := sg ?_) | refine ct (hx := ?_) | refine cf (hy := ?_) | refine lr (g := sg ?_) | refine rt (sg ?_) | refine rt ?_ | refine sk ?_ | refine xt ?_ | refine f1 (g := sg ?_) | refine f2 (g := sg ?_) | refine f3 (g := sg ?_) | refine And.intro (by first | assumption | omega) ?_
      exact ax [] ⟨⟨_, rfl⟩, rfl⟩
    · repeat first | refine nx ?_ | refine sq fun _ _ => ?_ | refine rg (sg ?_) | refine bl ?_ | refine sk (sg ?_) | refine xt (sg ?_) | refine lx (g := sg ?_) | refine ct (hx := ?_) | refine cf (hy := ?_) | refine lr (g := sg ?_) | refine rt (sg ?_) | refine rt ?_ | refine sk ?_ | refine xt ?_ | refine f1 (g := sg ?_) | refine f2 (g := sg ?_) | refine f3 (g := sg ?_) | refine And.intro (by first | assumption | omega) ?_
      refine cb (fun h => ?_) (fun h => ?_)
      · repeat first | refine nx ?_ | refine sq fun _ _ => ?_ | refine rg (sg ?_) | refine bl ?_ | refine sk (sg ?_) | refine xt (sg ?_) | refine lx (g := sg ?_) | refine ct (hx := ?_) | refine cf (hy := ?_) | refine lr (g := sg ?_) | refine rt (sg ?_) | refine rt ?_ | refine sk ?_ | refine xt ?_ | refine f1 (g := sg ?_) | refine f2 (g := sg ?_) | refine f3 (g := sg ?_) | refine And.intro (by first | assumption | omega) ?_
        exact ax [] ⟨⟨_, rfl⟩, rfl⟩
      · repeat first | refine nx ?_ | refine sq fun _ _ => ?_ | refine rg (sg ?_) | refine bl ?_ | refine sk (sg ?_) | refine xt (sg ?_) | refine lx (g := sg ?_) | refine ct (hx := ?_) | refine cf (hy := ?_) | refine lr (g := sg ?_) | refine rt (sg ?_) | refine rt ?_ | refine sk ?_ | refine xt ?_ | refine f1 (g := sg ?_) | refine f2 (g := sg ?_) | refine f3 (g := sg ?_) | refine And.intro (by first | assumption | omega) ?_
        refine cb (fun h => ?_) (fun h => ?_)
        · repeat first | refine nx ?_ | refine sq fun _ _ => ?_ | refine rg (sg ?_) | refine bl ?_ | refine sk (sg ?_) | refine xt (sg ?_) | refine lx (g := sg ?_) | refine ct (hx := ?_) | refine cf (hy := ?_) | refine lr (g := sg ?_) | refine rt (sg ?_) | refine rt ?_ | refine sk ?_ | refine xt ?_ | refine f1 (g := sg ?_) | refine f2 (g := sg ?_) | refine f3 (g := sg ?_) | refine And.intro (by first | assumption | omega) ?_
          exact ax [] ⟨⟨_, rfl⟩, rfl⟩
        · repeat first | refine nx ?_ | refine sq fun _ _ => ?_ | refine rg (sg ?_) | refine bl ?_ | refine sk (sg ?_) | refine xt (sg ?_) | refine lx (g := sg ?_) | refine ct (hx := ?_) | refine cf (hy := ?_) | refine lr (g := sg ?_) | refine rt (sg ?_) | refine rt ?_ | refine sk ?_ | refine xt ?_ | refine f1 (g := sg ?_) | refine f2 (g := sg ?_) | refine f3 (g := sg ?_) | refine And.intro (by first | assumption | omega) ?_
          refine cb (fun h => ?_) (fun h => ?_)
          · repeat first | refine nx ?_ | refine sq fun _ _ => ?_ | refine rg (sg ?_) | refine bl ?_ | refine sk (sg ?_) | refine xt (sg ?_) | refine lx (g := sg ?_) | refine ct (hx := ?_) | refine cf (hy := ?_) | refine lr (g := sg ?_) | refine rt (sg ?_) | refine rt ?_ | refine sk ?_ | refine xt ?_ | refine f1 (g := sg ?_) | refine f2 (g := sg ?_) | refine f3 (g := sg ?_) | refine And.intro (by first | assumption | omega) ?_
            exact ax [] ⟨⟨_, rfl⟩, rfl⟩
          · repeat first | refine nx ?_ | refine sq fun _ _ => ?_ | refine rg (sg ?_) | refine bl ?_ | refine sk (sg ?_) | refine xt (sg ?_) | refine lx (g := sg ?_) | refine ct (hx := ?_) | refine cf (hy := ?_) | refine lr (g := sg ?_) | refine rt (sg ?_) | refine rt ?_ | refine sk ?_ | refine xt ?_ | refine f1 (g := sg ?_) | refine f2 (g := sg ?_) | refine f3 (g := sg ?_) | refine And.intro (by first | assumption | omega) ?_
            exact ax [] ⟨⟨_, rfl⟩, rfl⟩
theorem c84 (l : List Co) (m v : Int) (r : List Ce) (h : okA l) (hl : l.length ≤ 1000) (hr : 0 < r.length) : PC Tryd.prog 84 [.one (.c (rowA 3 cCo l)), .agg (lc (cPr (prA m v))), .one (.c (rowA 3 cCe r))] [] (fun x bx => (∃ k, x = .int .i64 k) ∧ bx = []) := by
  refine enter (rs := [.tmp 6]) mx Tryd.func84 Tryd.ntmps84 fun Q0 hQ0 => ?_
  simp only [cPr, lc, List.map_cons, List.map_nil, List.length_nil]
  unfold rowA
  have he := el_at (f := cCe) hr
  repeat first | refine nx ?_ | refine sq fun _ _ => ?_ | refine rg (sg ?_) | refine bl ?_ | refine sk (sg ?_) | refine xt (sg ?_) | refine lx (g := sg ?_) | refine ct (hx := ?_) | refine cf (hy := ?_) | refine lr (g := sg ?_) | refine rt (sg ?_) | refine rt ?_ | refine sk ?_ | refine xt ?_ | refine f1 (g := sg ?_) | refine f2 (g := sg ?_) | refine f3 (g := sg ?_) | refine And.intro (by first | assumption | omega) ?_
  refine cl [] (sg ?_)
  refine (c88a l h hl).mono ?_
  rintro r bx ⟨rfl, rfl⟩
  refine sg ?_
  simp only [he]
  refine sg ?_
  refine ⟨by omega, ?_⟩
  repeat first | refine nx ?_ | refine sq fun _ _ => ?_ | refine rg (sg ?_) | refine bl ?_ | refine sk (sg ?_) | refine xt (sg ?_) | refine lx (g := sg ?_) | refine ct (hx := ?_) | refine cf (hy := ?_) | refine lr (g := sg ?_) | refine rt (sg ?_) | refine rt ?_ | refine sk ?_ | refine xt ?_ | refine f1 (g := sg ?_) | refine f2 (g := sg ?_) | refine f3 (g := sg ?_) | refine And.intro (by first | assumption | omega) ?_
  refine cb (fun h2 => ?_) (fun h2 => ?_)
  · repeat first | refine nx ?_ | refine sq fun _ _ => ?_ | refine rg (sg ?_) | refine bl ?_ | refine sk (sg ?_) | refine xt (sg ?_) | refine lx (g := sg ?_) | refine ct (hx := ?_) | refine cf (hy := ?_) | refine lr (g := sg ?_) | refine rt (sg ?_) | refine rt ?_ | refine sk ?_ | refine xt ?_ | refine f1 (g := sg ?_) | refine f2 (g := sg ?_) | refine f3 (g := sg ?_) | refine And.intro (by first | assumption | omega) ?_
    exact ax [] ⟨⟨_, rfl⟩, rfl⟩
  · repeat first | refine nx ?_ | refine sq fun _ _ => ?_ | refine rg (sg ?_) | refine bl ?_ | refine sk (sg ?_) | refine xt (sg ?_) | refine lx (g := sg ?_) | refine ct (hx := ?_) | refine cf (hy := ?_) | refine lr (g := sg ?_) | refine rt (sg ?_) | refine rt ?_ | refine sk ?_ | refine xt ?_ | refine f1 (g := sg ?_) | refine f2 (g := sg ?_) | refine f3 (g := sg ?_) | refine And.intro (by first | assumption | omega) ?_
    refine cl [] (sg ?_)
    refine (c126 _ ⟨false, v, ⟨#[]⟩⟩ m).mono ?_
    rintro r bx ⟨⟨b, rfl⟩, rfl⟩
    refine sg ?_
    refine cl [] (sg ?_)
    refine (c125 b).mono ?_
    rintro r bx ⟨rfl, rfl⟩
    refine sg ?_
    repeat first | refine nx ?_ | refine sq fun _ _ => ?_ | refine rg (sg ?_) | refine bl ?_ | refine sk (sg ?_) | refine xt (sg ?_) | refine lx (g := sg ?_) | refine ct (hx := ?_) | refine cf (hy := ?_) | refine lr (g := sg ?_) | refine rt (sg ?_) | refine rt ?_ | refine sk ?_ | refine xt ?_ | refine f1 (g := sg ?_) | refine f2 (g := sg ?_) | refine f3 (g := sg ?_) | refine And.intro (by first | assumption | omega) ?_
    exact ax [] ⟨⟨_, rfl⟩, rfl⟩
end Go.Proofs.YtdedmhmomoejkaaDoor.V
