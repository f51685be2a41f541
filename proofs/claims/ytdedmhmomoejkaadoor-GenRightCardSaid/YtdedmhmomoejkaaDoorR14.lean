import Derived.Test.YtdedmhmomoejkaaDoorR13
namespace Go.Proofs.YtdedmhmomoejkaaDoor.V
open Go Go.RowKit Go.Proofs.YtdedmhmomoejkaaDoorW.PrintLast
open Go.Proofs
set_option linter.unusedVariables false
set_option linter.unusedSimpArgs false
attribute [local irreducible] awp
set_option maxRecDepth 100000
theorem c88x (l : List Co) (x : Ae) (h : okAg x) (hA : okA l) (hK : okK l) : PC Tryd.prog 88 [.one (.c (rowA 3 cCo l)), .str x.col] [] (fun r bx => (∃ k : Int, r = .int .i64 k ∧ (k = -1 ∨ k = 0)) ∧ bx = []) := by
  have hcl : l.length ≤ 1000 := by have := hK.2.2.2; omega
  rcases h with ⟨_, h⟩ | ⟨_, h⟩
  · rw [h]
    exact (c88e l hcl hK).mono fun r bx h => ⟨⟨-1, h.1, .inl rfl⟩, h.2⟩
  · rw [h]
    exact (c88a l hA hcl).mono fun r bx h => ⟨⟨0, h.1, .inr rfl⟩, h.2⟩
set_option maxHeartbeats 8000000 in
theorem c87 (c : List Co) (nm : ByteArray) (v : Int) (l : List Ae) (rows : List (List Ce)) (hA : okA c) (hK : okK c) (ha : ∀ x ∈ l, okAg x) (hl : l.length ≤ 4) (hr : rows.length ≤ 1000) (hw : ∀ r ∈ rows, 0 < r.length) : PC Tryd.prog 87 [.one (.c (rowA 3 cCo c)), .agg (lc (cQu (quA nm v l))), .one (.c (rowA 1 cRow rows))] [] (fun r bx => (∃ out : List Ce, r = .one (.c (rowA 3 cCe out)) ∧ out.length ≤ 4) ∧ bx = []) := by
  refine enter (rs := [.tmp 6]) mx Tryd.func87 Tryd.ntmps87 fun Q0 hQ0 => ?_
  simp only [lc_quA]
  unfold rowA
  refine sq fun _ _ => ?_
  refine rg (sg ?_)
  refine nx ?_
  refine sq fun _ _ => ?_
  refine rg (sg ?_)
  refine nx ?_
  refine sq fun _ _ => ?_
  refine sq fun _ _ => ?_
  refine rg (sg ?_)
  refine nx ?_
  refine bl ?_
  refine lp [0, 2, 4, 7, 8] [0, 1] (fun k σ => ∃ (i : Nat) (out : List Ce), k = l.length - i ∧ i ≤ l.length ∧ out.length = i ∧ σ = ⟨63, 0, [(0, xRow c.length 3 (elemsOf (List.map cCo c))), (2, xRow rows.length 1 (elemsOf (List.map cRow rows))), (4, xPtr 0 0), (7, xOwn 1 3 0 out.length), (8, A.int .i64 i)], [.var (lc (cQu (quA nm v l))) 42, .arr (out.map fun x => lc (cCe x)) 3 35]⟩) l.length ?_ ?_
  · exact ⟨0, [], by omega, by omega, rfl, keq⟩
  · rintro k σ' ⟨i, out, hk, hi, hlen, rfl⟩ Q1 hQ1
    simp only [lc_quA]
    refine sq fun _ _ => ?_
    refine sq fun _ _ => ?_
    refine rg (sg ?_)
    refine nx ?_
    refine cb (fun h => ?_) (fun h => ?_)
    · have hop : l[i].op = 1 ∨ l[i].op = 3 := (ha _ (List.getElem_mem (by omega))).elim (fun h => .inl h.1) fun h => .inr h.1
      refine sk (sg ?_)
      refine nx ?_
      refine sq fun _ _ => ?_
      refine bl ?_
      refine sq fun _ _ => ?_
      refine rg (sg ?_)
      refine And.intro (by first | assumption | omega | rfl | trivial) ?_
      refine And.intro (by first | assumption | omega | rfl | trivial) ?_
      refine And.intro (by simp only [maxLen]; omega) ?_
      refine And.intro (by first | assumption | omega | rfl | trivial) ?_
      refine nx ?_
      refine sq fun _ _ => ?_
      refine rg (sg ?_)
      refine and_assoc.2 ?_
      refine And.intro (by first | assumption | omega | rfl | trivial) ?_
      refine And.intro (by first | assumption | omega | rfl | trivial) ?_
      refine cl [] (sg ?_)
      simp (disch := omega) only [el_at, ml_Ce]
      refine sg ?_
      refine (c88x c l[i] (ha _ (List.getElem_mem (by omega))) hA hK).mono ?_
      rintro r bx ⟨⟨at_, rfl, hat⟩, rfl⟩
      refine sg ?_
      refine nx ?_
      refine sq fun _ _ => ?_
      refine sq fun _ _ => ?_
      refine rg (sg ?_)
      refine nx ?_
      refine bl ?_
      refine lp [0, 2, 4, 7, 8, 9, 10, 11] [0, 1, 2] (fun k σ => ∃ (j : Nat) (ls : List Ce), k = rows.length - j ∧ j ≤ rows.length ∧ ls.length = rows.length ∧ σ = ⟨63, 0, [(0, xRow c.length 3 (elemsOf (List.map cCo c))), (2, xRow rows.length 1 (elemsOf (List.map cRow rows))), (4, xPtr 0 0), (7, xOwn 1 3 0 out.length), (8, A.int .i64 i), (9, xOwn 2 3 0 ls.length), (10, A.int .i64 at_), (11, A.int .i64 j)], [.var (lc (cQu (quA nm v l))) 42, .arr (out.map fun x => lc (cCe x)) 3 35, .arr (ls.map fun x => lc (cCe x)) 3 35]⟩) rows.length ?_ ?_
      · refine ⟨0, List.replicate rows.length ⟨false, 0, ⟨#[]⟩⟩, by omega, by omega, List.length_replicate, ?_⟩
        rw [List.map_replicate, List.length_replicate]
        exact keq
      · rintro k2 σ2 ⟨j, ls, hk2, hj, hls, rfl⟩ Q2 hQ2
        simp only [lc_quA]
        refine sq fun _ _ => ?_
        refine sq fun _ _ => ?_
        refine rg (sg ?_)
        refine nx ?_
        refine cb (fun h4 => ?_) (fun h4 => ?_)
        · have hat0 : at_ = 0 := by omega
          subst hat0
          have hp := hw rows[j] (List.getElem_mem (by omega))
          refine sk (sg ?_)
          refine nx ?_
          refine sq fun _ _ => ?_
          refine bl ?_
          refine rg (sg ?_)
          refine and_assoc.2 ?_
          refine And.intro (by first | assumption | omega | rfl | trivial) ?_
          refine And.intro (by first | assumption | omega | rfl | trivial) ?_
          simp (disch := omega) only [el_at, ml_Ce]
          refine sg ?_
          refine And.intro (by first | assumption | omega | rfl | trivial) ?_
          refine and_assoc.2 ?_
          refine And.intro (by first | assumption | omega | rfl | trivial) ?_
          refine And.intro (by first | assumption | omega | rfl | trivial) ?_
          simp (disch := omega) only [el_at, ml_Ce]
          refine sg ?_
          refine And.intro (by first | assumption | omega | rfl | trivial) ?_
          refine nx ?_
          refine rg (sg ?_)
          simp (disch := omega) only [wrap_succ]
          refine ln (rows.length - (j + 1)) [0, 1, 2] ?_ ?_
          · omega
          exact ⟨j + 1, ls.set j rows[j][0], rfl, by omega, by rw [List.length_set]; exact hls, keq⟩
        · refine xt (sg ?_)
          refine lx (g := sg ?_)
          refine nx ?_
          refine rg (sg ?_)
          refine and_assoc.2 ?_
          refine And.intro (by first | assumption | omega | rfl | trivial) ?_
          refine And.intro (by first | assumption | omega | rfl | trivial) ?_
          refine cl [] (sg ?_)
          simp (disch := omega) only [el_at, ml_Ce]
          refine sg ?_
          refine (c129 _ (by first | assumption | omega | trivial | rfl) _ (by first | assumption | omega | trivial | rfl)).mono ?_
          rintro r bx ⟨⟨x, rfl⟩, rfl⟩
          refine sg ?_
          refine .inr ?_
          refine And.intro (by first | assumption | omega | rfl | trivial) ?_
          refine And.intro (by simp only [maxLen]; omega) ?_
          refine nx ?_
          refine rg (sg ?_)
          simp (disch := omega) only [wrap_succ]
          refine ln (l.length - (i + 1)) [0, 4] ?_ ?_
          · omega
          exact ⟨i + 1, out ++ [x], rfl, by omega, by simp; omega, keq⟩
    · refine xt (sg ?_)
      refine lx (g := sg ?_)
      refine nx ?_
      refine sq fun _ _ => ?_
      refine rg (sg ?_)
      refine nx ?_
      refine rt ?_
      refine f1 (g := sg ?_)
      exact axr cCe out ⟨⟨out, rfl, by omega⟩, rfl⟩

end Go.Proofs.YtdedmhmomoejkaaDoor.V
