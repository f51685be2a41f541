import Derived.Test.YtdedmhmomoejkaaDoorR12
import Derived.Test.YtdedmhmomoejkaaDoorV22
namespace Go.Proofs.YtdedmhmomoejkaaDoor.V
open Go Go.RowKit Go.Proofs.YtdedmhmomoejkaaDoorW.PrintLast
open Go.Proofs
set_option linter.unusedVariables false
set_option linter.unusedSimpArgs false
attribute [local irreducible] awp
set_option maxRecDepth 100000
theorem ml_Ce (l : List Ce) {i : Nat} (h : i < l.length) : (l.map fun x => lc (cCe x)).getD i [] = [xB l[i].nl, xI l[i].i, xS l[i].s] := by
  rw [List.getD_eq_getElem?_getD, List.getElem?_map, List.getElem?_eq_getElem h]
  rfl
set_option maxHeartbeats 8000000 in
theorem c129 (op : Int) (hop : op = 1 ∨ op = 3) (l : List Ce) (hl : l.length ≤ 1000) : PC Tryd.prog 129 [.int .i64 op, .one (.c (rowA 3 cCe l))] [] (fun r bx => (∃ x : Ce, r = aCe x) ∧ bx = []) := by
  refine enter (rs := [.cell 4 35]) mx Tryd.func129 Tryd.ntmps129 fun Q0 hQ0 => ?_
  unfold rowA
  refine sq fun _ _ => ?_
  refine rg (sg ?_)
  refine nx ?_
  refine sq fun _ _ => ?_
  refine rg (sg ?_)
  refine nx ?_
  refine sq fun _ _ => ?_
  refine sq fun _ _ => ?_
  refine rg (sg ?_)
  refine nx ?_
  refine bl ?_
  refine lp [0, 1, 4, 5, 6] [0, 1] (fun k σ => ∃ (i : Nat) (out : List Ce), k = l.length - i ∧ i ≤ l.length ∧ out.length ≤ i ∧ σ = ⟨100, 0, [(0, A.int .i64 op), (1, xRow l.length 3 (elemsOf (l.map cCe))), (4, xPtr 0 0), (5, xOwn 1 3 0 out.length), (6, A.int .i64 i)], [.var [xB false, xI 0, xS ⟨#[]⟩] 35, .arr (out.map fun x => lc (cCe x)) 3 35]⟩) l.length ?_ ?_
  · exact ⟨0, [], by omega, by omega, Nat.le_refl _, keq⟩
  · rintro k σ' ⟨i, out, hk, hi, hlen, rfl⟩ Q1 hQ1
    refine sq fun _ _ => ?_
    refine sq fun _ _ => ?_
    refine rg (sg ?_)
    refine nx ?_
    refine cb (fun h => ?_) (fun h => ?_)
    · refine sk (sg ?_)
      refine nx ?_
      refine sq fun _ _ => ?_
      refine bl ?_
      refine sq fun _ _ => ?_
      refine rg (sg ?_)
      refine and_assoc.2 ?_
      refine And.intro (by first | assumption | omega | rfl | trivial) ?_
      refine And.intro (by first | assumption | omega | rfl | trivial) ?_
      simp (disch := omega) only [el_at, ml_Ce]
      refine sg ?_
      refine nx ?_
      refine cb (fun h2 => ?_) (fun h2 => ?_)
      · refine rg (sg ?_)
        refine and_assoc.2 ?_
        refine And.intro (by first | assumption | omega | rfl | trivial) ?_
        refine And.intro (by first | assumption | omega | rfl | trivial) ?_
        simp (disch := omega) only [el_at, ml_Ce]
        refine sg ?_
        refine And.intro (by first | assumption | omega | rfl | trivial) ?_
        refine And.intro (by simp only [maxLen]; omega) ?_
        refine nx ?_
        refine rg (sg ?_)
        simp (disch := omega) only [wrap_succ]
        refine ln (l.length - (i + 1)) [0, 3] ?_ ?_
        · omega
        exact ⟨i + 1, out ++ [l[i]], rfl, by omega, by simp; omega, keq⟩
      · refine sk (sg ?_)
        refine nx ?_
        refine rg (sg ?_)
        simp (disch := omega) only [wrap_succ]
        refine ln (l.length - (i + 1)) [0, 1] ?_ ?_
        · omega
        exact ⟨i + 1, out, rfl, by omega, by omega, keq⟩
    · refine xt (sg ?_)
      refine lx (g := sg ?_)
      refine nx ?_
      refine sq fun _ _ => ?_
      refine sq fun _ _ => ?_
      refine rg (sg ?_)
      refine nx ?_
      rcases hop with rfl | rfl
      · refine ct (hx := ?_)
        refine sq fun _ _ => ?_
        refine rg (sg ?_)
        refine nx ?_
        refine rt (sg ?_)
        refine f1 (g := sg ?_)
        exact ax [] ⟨⟨⟨false, l.length, ⟨#[]⟩⟩, rfl⟩, rfl⟩
      · refine cf (hy := ?_)
        refine sk (sg ?_)
        refine nx ?_
        refine sq fun _ _ => ?_
        refine sq fun _ _ => ?_
        refine rg (sg ?_)
        refine nx ?_
        refine cf (hy := ?_)
        refine sk (sg ?_)
        refine nx ?_
        refine sq fun _ _ => ?_
        refine sq fun _ _ => ?_
        refine rg (sg ?_)
        refine nx ?_
        refine cf (hy := ?_)
        refine sk (sg ?_)
        refine nx ?_
        refine sq fun _ _ => ?_
        refine sq fun _ _ => ?_
        refine rg (sg ?_)
        refine nx ?_
        refine cb (fun h3 => ?_) (fun h3 => ?_)
        · refine sq fun _ _ => ?_
          refine rg (sg ?_)
          refine nx ?_
          refine rt (sg ?_)
          refine f1 (g := sg ?_)
          exact ax [] ⟨⟨⟨true, 0, ⟨#[]⟩⟩, rfl⟩, rfl⟩
        · refine sk (sg ?_)
          refine nx ?_
          refine sq fun _ _ => ?_
          refine rg (sg ?_)
          refine And.intro (by first | assumption | omega | rfl | trivial) ?_
          refine And.intro (by first | assumption | omega | rfl | trivial) ?_
          simp (disch := omega) only [el_at, ml_Ce]
          refine sg ?_
          refine nx ?_
          refine sq fun _ _ => ?_
          refine sq fun _ _ => ?_
          refine rg (sg ?_)
          refine nx ?_
          refine bl ?_
          refine lp [0, 4, 5, 7, 8, 9] [0, 1, 2] (fun k σ => ∃ (i : Nat) (s : Int), k = out.length - i ∧ i ≤ out.length ∧ σ = ⟨100, 0, [(0, A.int .i64 3), (4, xPtr 0 0), (5, xOwn 1 3 0 out.length), (7, xPtr 2 0), (8, A.int .i64 s), (9, A.int .i64 i)], [.var [xB false, xI 0, xS { data := #[] }] 35, .arr (List.map (fun x => lc (cCe x)) out) 3 35, .var [xB out[0].nl, xI out[0].i, xS out[0].s] 35]⟩) out.length ?_ ?_
          · exact ⟨0, 0, by omega, by omega, keq⟩
          · rintro k2 σ2 ⟨j, s, hk2, hj, rfl⟩ Q2 hQ2
            refine sq fun _ _ => ?_
            refine sq fun _ _ => ?_
            refine rg (sg ?_)
            refine nx ?_
            refine cb (fun h4 => ?_) (fun h4 => ?_)
            · refine sk (sg ?_)
              refine nx ?_
              refine sq fun _ _ => ?_
              refine bl ?_
              refine sq fun _ _ => ?_
              refine rg (sg ?_)
              refine and_assoc.2 ?_
              refine And.intro (by first | assumption | omega | rfl | trivial) ?_
              refine And.intro (by first | assumption | omega | rfl | trivial) ?_
              refine And.intro (by first | assumption | omega | rfl | trivial) ?_
              simp (disch := omega) only [el_at, ml_Ce]
              refine sg ?_
              refine nx ?_
              refine sq fun _ _ => ?_
              refine df (.take 0 <| .take 1 <| .take 2 <| .take 3 <| .take 4 <| .take 5 <| .take 6 <| .take 7 <| .one 8 <| .pure 9 <| .pure 10 <| .pure 11 <| .pure 12 <| .pure 13 <| .pure 14 <| .pure 15 <| .pure 16 <| .pure 17 <| .two 18 19 (.one 19 <| .one 20 <| .pure 21 <| .pure 22 <| .pure 23 <| .nil) (.one 18 <| .one 20 <| .pure 21 <| .pure 22 <| .pure 23 <| .nil)) [] (sg ?_)
              simp only [undef]
              refine sg ?_
              simp (disch := omega) only [el_at, ml_Ce]
              refine sg ?_
              refine ⟨?_, ?_⟩
              · refine nx ?_
                refine cf (hy := ?_)
                refine sk (sg ?_)
                refine nx ?_
                refine rg (sg ?_)
                simp (disch := omega) only [wrap_succ]
                refine ln (out.length - (j + 1)) [0, 1, 2] ?_ ?_
                · omega
                exact ⟨j + 1, _, rfl, by omega, keq⟩
              · refine nx ?_
                refine cf (hy := ?_)
                refine sk (sg ?_)
                refine nx ?_
                refine rg (sg ?_)
                simp (disch := omega) only [wrap_succ]
                refine ln (out.length - (j + 1)) [0, 1, 2] ?_ ?_
                · omega
                exact ⟨j + 1, _, rfl, by omega, keq⟩
            · refine xt (sg ?_)
              refine lx (g := sg ?_)
              refine nx ?_
              refine sq fun _ _ => ?_
              refine sq fun _ _ => ?_
              refine rg (sg ?_)
              refine nx ?_
              refine ct (hx := ?_)
              refine sq fun _ _ => ?_
              refine rg (sg ?_)
              refine nx ?_
              refine rt (sg ?_)
              refine f1 (g := sg ?_)
              exact ax [] ⟨⟨⟨false, s, ⟨#[]⟩⟩, rfl⟩, rfl⟩

end Go.Proofs.YtdedmhmomoejkaaDoor.V
