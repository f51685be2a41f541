import Derived.Test.YtdedmhmomoejkaaDoorR4
namespace Go.Proofs.YtdedmhmomoejkaaDoor.V
open Go Go.RowKit Go.Proofs.YtdedmhmomoejkaaDoorW.PrintLast
open Go.Proofs
set_option linter.unusedVariables false
set_option linter.unusedSimpArgs false
attribute [local irreducible] awp
--IMP R4
set_option maxRecDepth 100000
abbrev nilC : C := .v (.slice none 0 0)
theorem rowList_row (l : List (List Ce)) : rowList l.length 1 (elemsOf (l.map cRow)) = l.map fun r => lc (cRow r) := by
  unfold rowList
  apply List.ext_getElem
  · simp
  · intro i h1 h2
    simp only [List.getElem_map, List.getElem_range]
    have hi : i < l.length := by simpa using h2
    rw [el_at (f := cRow) hi]
    rfl
theorem allCell_row (l : List (List Ce)) : allCell (l.map fun r => lc (cRow r)) := by
  intro e h
  obtain ⟨r, _, rfl⟩ := List.mem_map.1 h
  rfl
set_option maxHeartbeats 4000000 in
theorem c45 (l : List Tb) (t : Tb) (rows : List (List Ce)) (hl : l.length ≤ 1000) (hc : t.cols.length ≤ 1000) (hr : ∀ r ∈ rows, okR t.cols r) (ht : t.rows.length ≤ 1000) (hrl : rows.length ≤ 1000) : PC Tryd.prog 45 [.one (.c (rowA 3 cTb l)), .agg (lc (cTb t)), .one (.c (rowA 1 cRow rows))] [] (fun r bx => bx = [] ∧ ∃ (l' : List Tb) (e n : Int), r = twoR l' e n nilC nilC ∧ (e = 0 ∨ e = 4) ∧ l'.length ≤ l.length + 1 ∧ ∀ x ∈ l', x = ⟨t.nm, t.cols, t.rows ++ rows⟩ ∧ t.rows.length + rows.length ≤ 200 ∨ x ∈ l) := by
  refine enter (rs := [.tmp 6, .cell 7 50]) mx Tryd.func45 Tryd.ntmps45 fun Q0 hQ0 => ?_
  simp only [lc_Tb t]
  unfold rowA
  repeat first | refine nx ?_ | refine sq fun _ _ => ?_ | refine rg (sg ?_) | refine bl ?_ | refine sk (sg ?_) | refine xt (sg ?_) | refine lx (g := sg ?_) | refine ct (hx := ?_) | refine cf (hy := ?_) | refine lr (g := sg ?_) | refine rt (sg ?_) | refine rt ?_ | refine sk ?_ | refine xt ?_ | refine f1 (g := sg ?_) | refine f2 (g := sg ?_) | refine f3 (g := sg ?_) | refine And.intro (by first | assumption | omega) ?_
  refine cb (fun h => ?_) (fun h => ?_)
  · repeat first | refine nx ?_ | refine sq fun _ _ => ?_ | refine rg (sg ?_) | refine bl ?_ | refine sk (sg ?_) | refine xt (sg ?_) | refine lx (g := sg ?_) | refine ct (hx := ?_) | refine cf (hy := ?_) | refine lr (g := sg ?_) | refine rt (sg ?_) | refine rt ?_ | refine sk ?_ | refine xt ?_ | refine f1 (g := sg ?_) | refine f2 (g := sg ?_) | refine f3 (g := sg ?_) | refine And.intro (by first | assumption | omega) ?_
    refine cl [] (sg ?_)
    refine (c41 l 4).mono ?_
    rintro r bx ⟨rfl, rfl⟩
    refine sg ?_
    repeat first | refine nx ?_ | refine sq fun _ _ => ?_ | refine rg (sg ?_) | refine bl ?_ | refine sk (sg ?_) | refine xt (sg ?_) | refine lx (g := sg ?_) | refine ct (hx := ?_) | refine cf (hy := ?_) | refine lr (g := sg ?_) | refine rt (sg ?_) | refine rt ?_ | refine sk ?_ | refine xt ?_ | refine f1 (g := sg ?_) | refine f2 (g := sg ?_) | refine f3 (g := sg ?_) | refine And.intro (by first | assumption | omega) ?_
    refine ⟨_, _, rfl, rfl, ?_⟩
    exact ax [] ⟨rfl, l, 4, 0, rfl, .inr rfl, by omega, fun x hx => .inr hx⟩
  · repeat first | refine nx ?_ | refine sq fun _ _ => ?_ | refine rg (sg ?_) | refine bl ?_ | refine sk (sg ?_) | refine xt (sg ?_) | refine lx (g := sg ?_) | refine ct (hx := ?_) | refine cf (hy := ?_) | refine lr (g := sg ?_) | refine rt (sg ?_) | refine rt ?_ | refine sk ?_ | refine xt ?_ | refine f1 (g := sg ?_) | refine f2 (g := sg ?_) | refine f3 (g := sg ?_) | refine And.intro (by first | assumption | omega) ?_
    refine lp [0, 2, 4, 7, 8] [0, 1] (fun k σ => ∃ i : Nat, k = rows.length - i ∧ i ≤ rows.length ∧ σ = ⟨58, 0, [(0, .one (.c (.sl l.length 3 (elemsOf (l.map cTb))))), (2, .one (.c (.sl rows.length 1 (elemsOf (rows.map cRow))))), (4, .one (.ptr 0 0)), (7, .one (.ptr 1 0)), (8, .int .i64 i)], [.var (lc (cTb t)) 104, .var [.c (.v (.int .i64 0)), .c (.v (.int .i64 0)), .c (.v (.slice none 0 0)), .c (.v (.slice none 0 0))] 50]⟩) rows.length ?_ ?_
    · exact ⟨0, by omega, by omega, rfl⟩
    · rintro k σ' ⟨i, hk, hi, rfl⟩ Q1 hQ1
      simp only [lc_Tb t]
      repeat first | refine nx ?_ | refine sq fun _ _ => ?_ | refine rg (sg ?_) | refine bl ?_ | refine sk (sg ?_) | refine xt (sg ?_) | refine lx (g := sg ?_) | refine ct (hx := ?_) | refine cf (hy := ?_) | refine lr (g := sg ?_) | refine rt (sg ?_) | refine rt ?_ | refine sk ?_ | refine xt ?_ | refine f1 (g := sg ?_) | refine f2 (g := sg ?_) | refine f3 (g := sg ?_) | refine And.intro (by first | assumption | omega) ?_
      refine cb (fun h => ?_) (fun h => ?_)
      · have hin : i < rows.length := by omega
        have hwi : IntKind.i64.wrap ((i : Int) + 1) = ((i + 1 : Nat) : Int) := by rw [IntKind.wrap_i64]; omega
        have he := el_at (f := cRow) hin
        have hri := hr _ (List.getElem_mem hin)
        repeat first | refine nx ?_ | refine sq fun _ _ => ?_ | refine rg (sg ?_) | refine bl ?_ | refine sk (sg ?_) | refine xt (sg ?_) | refine lx (g := sg ?_) | refine ct (hx := ?_) | refine cf (hy := ?_) | refine lr (g := sg ?_) | refine rt (sg ?_) | refine rt ?_ | refine sk ?_ | refine xt ?_ | refine f1 (g := sg ?_) | refine f2 (g := sg ?_) | refine f3 (g := sg ?_) | refine And.intro (by first | assumption | omega) ?_
        refine dr [.take 0, .take 1, .take 2, .take 3, .take 4, .take 5, .one 6, .pure 7] [] (sg ?_)
        simp only [he]
        refine sg ?_
        refine ⟨⟨by omega, by omega⟩, ?_⟩
        refine cl [] (sg ?_)
        refine (c82 t.cols _ hc hri).mono ?_
        rintro r bx ⟨rfl, rfl⟩
        refine sg ?_
        repeat first | refine nx ?_ | refine sq fun _ _ => ?_ | refine rg (sg ?_) | refine bl ?_ | refine sk (sg ?_) | refine xt (sg ?_) | refine lx (g := sg ?_) | refine ct (hx := ?_) | refine cf (hy := ?_) | refine lr (g := sg ?_) | refine rt (sg ?_) | refine rt ?_ | refine sk ?_ | refine xt ?_ | refine f1 (g := sg ?_) | refine f2 (g := sg ?_) | refine f3 (g := sg ?_) | refine And.intro (by first | assumption | omega) ?_
        refine ln (rows.length - (i + 1)) [0, 1] ?_ ?_
        · omega
        refine ⟨i + 1, rfl, by omega, ?_⟩
        rw [← hwi]
        rfl
      · repeat first | refine nx ?_ | refine sq fun _ _ => ?_ | refine rg (sg ?_) | refine bl ?_ | refine sk (sg ?_) | refine xt (sg ?_) | refine lx (g := sg ?_) | refine ct (hx := ?_) | refine cf (hy := ?_) | refine lr (g := sg ?_) | refine rt (sg ?_) | refine rt ?_ | refine sk ?_ | refine xt ?_ | refine f1 (g := sg ?_) | refine f2 (g := sg ?_) | refine f3 (g := sg ?_) | refine And.intro (by first | assumption | omega) ?_
        refine cb (fun h2 => ?_) (fun h2 => ?_)
        · repeat first | refine nx ?_ | refine sq fun _ _ => ?_ | refine rg (sg ?_) | refine bl ?_ | refine sk (sg ?_) | refine xt (sg ?_) | refine lx (g := sg ?_) | refine ct (hx := ?_) | refine cf (hy := ?_) | refine lr (g := sg ?_) | refine rt (sg ?_) | refine rt ?_ | refine sk ?_ | refine xt ?_ | refine f1 (g := sg ?_) | refine f2 (g := sg ?_) | refine f3 (g := sg ?_) | refine And.intro (by first | assumption | omega) ?_
          refine cl [] (sg ?_)
          refine (c41 l 4).mono ?_
          rintro r bx ⟨rfl, rfl⟩
          refine sg ?_
          repeat first | refine nx ?_ | refine sq fun _ _ => ?_ | refine rg (sg ?_) | refine bl ?_ | refine sk (sg ?_) | refine xt (sg ?_) | refine lx (g := sg ?_) | refine ct (hx := ?_) | refine cf (hy := ?_) | refine lr (g := sg ?_) | refine rt (sg ?_) | refine rt ?_ | refine sk ?_ | refine xt ?_ | refine f1 (g := sg ?_) | refine f2 (g := sg ?_) | refine f3 (g := sg ?_) | refine And.intro (by first | assumption | omega) ?_
          refine ⟨_, _, rfl, rfl, ?_⟩
          exact ax [] ⟨rfl, l, 4, 0, rfl, .inr rfl, by omega, fun x hx => .inr hx⟩
        · repeat first | refine nx ?_ | refine sq fun _ _ => ?_ | refine rg (sg ?_) | refine bl ?_ | refine sk (sg ?_) | refine xt (sg ?_) | refine lx (g := sg ?_) | refine ct (hx := ?_) | refine cf (hy := ?_) | refine lr (g := sg ?_) | refine rt (sg ?_) | refine rt ?_ | refine sk ?_ | refine xt ?_ | refine f1 (g := sg ?_) | refine f2 (g := sg ?_) | refine f3 (g := sg ?_) | refine And.intro (by first | assumption | omega) ?_
          have hsum : IntKind.i64.wrap ((t.rows.length : Int) + rows.length) = (t.rows.length : Int) + rows.length := by rw [IntKind.wrap_i64]; omega
          rw [hsum] at h2
          simp only [rowList_row, List.length_map]
          refine ⟨allCell_row _, by omega, by simp only [maxLen]; omega, allCell_row _, Nat.le_refl _, by omega, by simp only [maxLen]; omega, ?_⟩
          rw [take_all (List.map (fun r => lc (cRow r)) t.rows) (List.length_map ..).symm, ← List.map_append]
          repeat first | refine nx ?_ | refine sq fun _ _ => ?_ | refine rg (sg ?_) | refine bl ?_ | refine sk (sg ?_) | refine xt (sg ?_) | refine lx (g := sg ?_) | refine ct (hx := ?_) | refine cf (hy := ?_) | refine lr (g := sg ?_) | refine rt (sg ?_) | refine rt ?_ | refine sk ?_ | refine xt ?_ | refine f1 (g := sg ?_) | refine f2 (g := sg ?_) | refine f3 (g := sg ?_) | refine And.intro (by first | assumption | omega) ?_
          refine cl [] (sg ?_)
          have ev : (C.sl (t.rows.length + rows.length) 1 fun z => vw (List.map (fun r => lc (cRow r)) (t.rows ++ rows)) z) = rowA 1 cRow (t.rows ++ rows) := by
            rw [vw_lc]
            unfold rowA
            rw [List.length_append]
          rw [if_pos (Nat.le_refl _), ev]
          refine (c44 l ⟨t.nm, t.cols, t.rows ++ rows⟩ hl).mono ?_
          rintro r bx ⟨rfl, l', rfl, hl', hall⟩
          refine sg ?_
          refine .inr ?_
          repeat first | refine nx ?_ | refine sq fun _ _ => ?_ | refine rg (sg ?_) | refine bl ?_ | refine sk (sg ?_) | refine xt (sg ?_) | refine lx (g := sg ?_) | refine ct (hx := ?_) | refine cf (hy := ?_) | refine lr (g := sg ?_) | refine rt (sg ?_) | refine rt ?_ | refine sk ?_ | refine xt ?_ | refine f1 (g := sg ?_) | refine f2 (g := sg ?_) | refine f3 (g := sg ?_) | refine And.intro (by first | assumption | omega) ?_
          refine ⟨_, _, rfl, rfl, ?_⟩
          refine ax [] ⟨rfl, l', 0, rows.length, rfl, .inl rfl, hl', fun x hx => ?_⟩
          rcases hall x hx with h | h
          · exact .inl ⟨h, by omega⟩
          · exact .inr h
end Go.Proofs.YtdedmhmomoejkaaDoor.V
