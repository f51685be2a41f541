import Derived.Test.YtdedmhmomoejkaaDoorR14
namespace Go.Proofs.YtdedmhmomoejkaaDoor.V
open Go Go.RowKit Go.Proofs.YtdedmhmomoejkaaDoorW.PrintLast
open Go.Proofs
set_option linter.unusedVariables false
set_option linter.unusedSimpArgs false
attribute [local irreducible] awp
set_option maxRecDepth 100000
set_option maxHeartbeats 8000000 in
theorem c47 (c : List Co) (nm : ByteArray) (v : Int) (l : List Ae) (rows : List (List Ce)) (hn : okN nm) (hA : okA c) (hK : okK c) (ha : ∀ x ∈ l, okAg x) (hl : l.length ≤ 4) (hr : rows.length ≤ 1000) (hok : ∀ r ∈ rows, okR c r) : PC Tryd.prog 47 [.one (.c (rowA 3 cCo c)), .agg (lc (cQu (quA nm v l))), .one (.c (rowA 1 cRow rows))] [] (fun r bx => (∃ out : List (List Ce), r = .tup [([.c (rowA 1 cRow out)], false), ([xI 0], false)]) ∧ bx = []) := by
  have hcl : c.length ≤ 1000 := by have := hK.2.2.2; omega
  have hcp : 0 < c.length := by have := hK.2.2.1; omega
  refine enter (rs := [.tmp 6, .tmp 7]) mx Tryd.func47 Tryd.ntmps47 fun Q0 hQ0 => ?_
  simp only [lc_quA]
  refine sq fun _ _ => ?_
  refine rg (sg ?_)
  refine nx ?_
  refine sq fun _ _ => ?_
  refine sq fun _ _ => ?_
  refine rg (sg ?_)
  refine cl [] (sg ?_)
  refine (c85 _ _ _ _ (by first | assumption | omega | trivial | rfl) (by first | assumption | omega | trivial | rfl) (by first | assumption | omega | trivial | rfl) (by first | assumption | omega | trivial | rfl) (by first | assumption | omega | trivial | rfl)).mono ?_
  rintro r bx ⟨rfl, rfl⟩
  refine sg ?_
  refine nx ?_
  refine sq fun _ _ => ?_
  refine rg (sg ?_)
  refine nx ?_
  refine cf (hy := ?_)
  refine sk (sg ?_)
  refine nx ?_
  refine sq fun _ _ => ?_
  refine rg (sg ?_)
  refine nx ?_
  refine sq fun _ _ => ?_
  refine sq fun _ _ => ?_
  refine rg (sg ?_)
  refine nx ?_
  refine bl ?_
  refine lp [0, 2, 4, 9, 10] [0, 1] (fun k σ => ∃ (i : Nat) (out : List (List Ce)), k = rows.length - i ∧ i ≤ rows.length ∧ out.length ≤ i ∧ (∀ r ∈ out, r ∈ rows) ∧ σ = ⟨123, 0, [(0, xRow c.length 3 (elemsOf (List.map cCo c))), (2, xRow rows.length 1 (elemsOf (List.map cRow rows))), (4, xPtr 0 0), (9, xOwn 1 1 0 out.length), (10, A.int .i64 i)], [.var (lc (cQu (quA nm v l))) 42, .arr (out.map fun x => lc (cRow x)) 1 98]⟩) rows.length ?_ ?_
  · exact ⟨0, [], by omega, by omega, Nat.le_refl _, fun _ h => (nomatch h), keq⟩
  · rintro k σ' ⟨i, out, hk, hi, hlen, hall, rfl⟩ Q1 hQ1
    simp only [lc_quA]
    refine sq fun _ _ => ?_
    refine sq fun _ _ => ?_
    refine rg (sg ?_)
    refine nx ?_
    refine cb (fun h => ?_) (fun h => ?_)
    · have hri := hok rows[i] (List.getElem_mem (by omega))
      have hrp : 0 < rows[i].length := by rw [hri.1]; exact hcp
      refine sk (sg ?_)
      refine nx ?_
      refine sq fun _ _ => ?_
      refine bl ?_
      refine sq fun _ _ => ?_
      refine sq fun _ _ => ?_
      refine rg (sg ?_)
      refine and_assoc.2 ?_
      refine And.intro (by first | assumption | omega | rfl | trivial) ?_
      refine And.intro (by first | assumption | omega | rfl | trivial) ?_
      refine cl [] (sg ?_)
      simp (disch := omega) only [el_at, ml_Ce]
      refine sg ?_
      refine (c82 _ _ (by first | assumption | omega | trivial | rfl) (by first | assumption | omega | trivial | rfl)).mono ?_
      rintro r bx ⟨rfl, rfl⟩
      refine sg ?_
      refine nx ?_
      refine cf (hy := ?_)
      refine sk (sg ?_)
      refine nx ?_
      refine sq fun _ _ => ?_
      refine dr [.take 0, .take 1, .take 2, .take 3, .take 4, .take 5, .take 6, .one 7, .pure 8] [] (sg ?_)
      refine and_assoc.2 ?_
      refine And.intro (by first | assumption | omega | rfl | trivial) ?_
      refine And.intro (by first | assumption | omega | rfl | trivial) ?_
      refine cl [] (sg ?_)
      simp (disch := omega) only [el_at, ml_Ce]
      refine sg ?_
      refine (c84 _ _ _ _ (by first | assumption | omega | trivial | rfl) (by first | assumption | omega | trivial | rfl) (by first | assumption | omega | trivial | rfl)).mono ?_
      rintro r bx ⟨⟨q, rfl⟩, rfl⟩
      refine sg ?_
      refine nx ?_
      refine cb (fun h2 => ?_) (fun h2 => ?_)
      · refine rg (sg ?_)
        refine and_assoc.2 ?_
        refine And.intro (by first | assumption | omega | rfl | trivial) ?_
        refine And.intro (by first | assumption | omega | rfl | trivial) ?_
        simp (disch := omega) only [el_at, ml_Ce]
        refine sg ?_
        refine And.intro (by first | assumption | omega | rfl | trivial) ?_
        refine And.intro (by simp only [maxLen]; omega) ?_
        refine nx ?_
        refine rg (sg ?_)
        simp (disch := omega) only [wrap_succ]
        refine ln (rows.length - (i + 1)) [0, 3] ?_ ?_
        · omega
        exact ⟨i + 1, out ++ [rows[i]], rfl, by omega, by simp; omega, fun x hx => (List.mem_append.1 hx).elim (hall x) fun h => by rw [List.mem_singleton.1 h]; exact List.getElem_mem (by omega), keq⟩
      · refine sk (sg ?_)
        refine nx ?_
        refine rg (sg ?_)
        simp (disch := omega) only [wrap_succ]
        refine ln (rows.length - (i + 1)) [0, 1] ?_ ?_
        · omega
        exact ⟨i + 1, out, rfl, by omega, by omega, hall, keq⟩
    · have hwo : ∀ r ∈ out, r.length ≤ 1000 := fun r h => by rw [(hok r (hall r h)).1]; exact hcl
      have hwp : ∀ r ∈ out, 0 < r.length := fun r h => by rw [(hok r (hall r h)).1]; exact hcp
      refine xt (sg ?_)
      refine lx (g := sg ?_)
      refine nx ?_
      refine sq fun _ _ => ?_
      refine sq fun _ _ => ?_
      refine rg (sg ?_)
      refine nx ?_
      refine cb (fun h3 => ?_) (fun h3 => ?_)
      · refine sq fun _ _ => ?_
        refine rg (sg ?_)
        refine cl [] (sg ?_)
        refine (c86 _ _ _ _ _ (by first | assumption | omega | trivial | rfl) (by first | assumption | omega | trivial | rfl)).mono ?_
        rintro r bx ⟨rfl, rfl⟩
        refine sg ?_
        refine .inr ?_
        refine nx ?_
        refine rt (sg ?_)
        refine f2 (g := sg ?_)
        refine ⟨_, _, rfl, rfl, ?_⟩
        exact ax [] ⟨⟨out, rfl⟩, rfl⟩
      · refine sk (sg ?_)
        refine nx ?_
        refine sq fun _ _ => ?_
        refine sq fun _ _ => ?_
        refine rg (sg ?_)
        refine nx ?_
        refine ct (hx := ?_)
        refine sq fun _ _ => ?_
        refine rg (sg ?_)
        refine cl [] (sg ?_)
        refine (c87 _ _ _ _ _ (by first | assumption | omega | trivial | rfl) (by first | assumption | omega | trivial | rfl) (by first | assumption | omega | trivial | rfl) (by first | assumption | omega | trivial | rfl) (by first | assumption | omega | trivial | rfl) (by first | assumption | omega | trivial | rfl)).mono ?_
        rintro r bx ⟨⟨o2, rfl, ho2⟩, rfl⟩
        refine sg ?_
        refine .inr ?_
        refine nx ?_
        refine rt (sg ?_)
        refine f2 (g := sg ?_)
        refine ⟨_, _, rfl, rfl, ?_⟩
        exact axr2 cRow [o2] ⟨⟨[o2], rfl⟩, rfl⟩

end Go.Proofs.YtdedmhmomoejkaaDoor.V
