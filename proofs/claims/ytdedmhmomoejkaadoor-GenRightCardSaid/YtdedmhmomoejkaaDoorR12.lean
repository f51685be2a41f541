import Derived.Test.YtdedmhmomoejkaaDoorR11
namespace Go.Proofs.YtdedmhmomoejkaaDoor.V
open Go Go.RowKit Go.Proofs.YtdedmhmomoejkaaDoorW.PrintLast
open Go.Proofs
set_option linter.unusedVariables false
set_option linter.unusedSimpArgs false
attribute [local irreducible] awp
--IMP R11
set_option maxRecDepth 100000
theorem rowList_ce (l : List Ce) : rowList l.length 3 (elemsOf (l.map cCe)) = l.map fun r => lc (cCe r) := by
  unfold rowList
  apply List.ext_getElem
  · simp
  · intro i h1 h2
    simp only [List.getElem_map, List.getElem_range]
    have hi : i < l.length := by simpa using h2
    rw [el_at (f := cCe) hi]
    rfl
theorem allCell_ce (l : List Ce) : allCell (l.map fun r => lc (cCe r)) := by
  intro e h
  obtain ⟨r, _, rfl⟩ := List.mem_map.1 h
  rfl
set_option maxHeartbeats 4000000 in
theorem c86 (c : List Co) (nm : ByteArray) (v : Int) (l : List Ae) (rows : List (List Ce)) (hr : rows.length ≤ 1000) (hw : ∀ r ∈ rows, r.length ≤ 1000) : PC Tryd.prog 86 [.one (.c (rowA 3 cCo c)), .agg (lc (cQu (quA nm v l))), .one (.c (rowA 1 cRow rows))] [] (fun r bx => r = .one (.c (rowA 1 cRow rows)) ∧ bx = []) := by
  refine enter (rs := [.tmp 6]) mx Tryd.func86 Tryd.ntmps86 fun Q0 hQ0 => ?_
  simp only [lc_quA]
  unfold rowA
  repeat first | refine nx ?_ | refine sq fun _ _ => ?_ | refine rg (sg ?_) | refine bl ?_ | refine sk (sg ?_) | refine xt (sg ?_) | refine lx (g := sg ?_) | refine ct (hx := ?_) | refine cf (hy := ?_) | refine lr (g := sg ?_) | refine rt (sg ?_) | refine rt ?_ | refine sk ?_ | refine xt ?_ | refine f1 (g := sg ?_) | refine f2 (g := sg ?_) | refine f3 (g := sg ?_) | refine And.intro (by first | assumption | omega) ?_
  refine lp [0, 2, 4, 7, 8] [0, 1] (fun k σ => ∃ (i : Nat), k = rows.length - i ∧ i ≤ rows.length ∧ σ = ⟨57, 0, [(0, .one (.c (.sl c.length 3 (elemsOf (c.map cCo))))), (2, .one (.c (.sl rows.length 1 (elemsOf (rows.map cRow))))), (4, .one (.ptr 0 0)), (7, .one (.own 1 1 0 i)), (8, .int .i64 i)], [.var (lc (cQu (quA nm v l))) 42, .arr ((rows.take i).map fun x => lc (cRow x)) 1 98]⟩) rows.length ?_ ?_
  · exact ⟨0, by omega, by omega, rfl⟩
  · rintro k σ' ⟨i, hk, hi, rfl⟩ Q1 hQ1
    simp only [lc_quA]
    repeat first | refine nx ?_ | refine sq fun _ _ => ?_ | refine rg (sg ?_) | refine bl ?_ | refine sk (sg ?_) | refine xt (sg ?_) | refine lx (g := sg ?_) | refine ct (hx := ?_) | refine cf (hy := ?_) | refine lr (g := sg ?_) | refine rt (sg ?_) | refine rt ?_ | refine sk ?_ | refine xt ?_ | refine f1 (g := sg ?_) | refine f2 (g := sg ?_) | refine f3 (g := sg ?_) | refine And.intro (by first | assumption | omega) ?_
    refine cb (fun h => ?_) (fun h => ?_)
    · have hin : i < rows.length := by omega
      have hwi : IntKind.i64.wrap ((i : Int) + 1) = ((i + 1 : Nat) : Int) := by rw [IntKind.wrap_i64]; omega
      have he := el_at (f := cRow) hin
      have hwl := hw _ (List.getElem_mem hin)
      repeat first | refine nx ?_ | refine sq fun _ _ => ?_ | refine rg (sg ?_) | refine bl ?_ | refine sk (sg ?_) | refine xt (sg ?_) | refine lx (g := sg ?_) | refine ct (hx := ?_) | refine cf (hy := ?_) | refine lr (g := sg ?_) | refine rt (sg ?_) | refine rt ?_ | refine sk ?_ | refine xt ?_ | refine f1 (g := sg ?_) | refine f2 (g := sg ?_) | refine f3 (g := sg ?_) | refine And.intro (by first | assumption | omega) ?_
      refine lp [0, 2, 4, 7, 8, 9, 10] [0, 1, 2] (fun k σ => σ = ⟨57, 0, [(0, .one (.c (.sl c.length 3 (elemsOf (c.map cCo))))), (2, .one (.c (.sl rows.length 1 (elemsOf (rows.map cRow))))), (4, .one (.ptr 0 0)), (7, .one (.own 1 1 0 i)), (8, .int .i64 i), (9, .one (.own 2 3 0 0)), (10, .int .i64 0)], [.var (lc (cQu (quA nm v l))) 42, .arr ((rows.take i).map fun x => lc (cRow x)) 1 98, .arr [] 3 35]⟩) 0 ?_ ?_
      · simp only [St.keep]
        refine sg ?_
        first | (rw [rows1_map]; rfl) | rfl
      · rintro k2 σ2 rfl Q2 hQ2
        simp only [lc_quA]
        repeat first | refine nx ?_ | refine sq fun _ _ => ?_ | refine rg (sg ?_) | refine bl ?_ | refine sk (sg ?_) | refine xt (sg ?_) | refine lx (g := sg ?_) | refine ct (hx := ?_) | refine cf (hy := ?_) | refine lr (g := sg ?_) | refine rt (sg ?_) | refine rt ?_ | refine sk ?_ | refine xt ?_ | refine f1 (g := sg ?_) | refine f2 (g := sg ?_) | refine f3 (g := sg ?_) | refine And.intro (by first | assumption | omega) ?_
        have he0 : elemsOf (rows.map cRow) i 0 = .sl rows[i].length 3 (elemsOf (rows[i].map cCe)) := by rw [he]; rfl
        have htl : (List.map (fun x => lc (cRow x)) (List.take i rows)).length = i := by rw [List.length_map, List.length_take]; omega
        simp only [he0]
        refine sg ?_
        simp only [rowList_ce, List.length_map]
        refine ⟨allCell_ce _, by omega, by simp only [maxLen]; omega, ?_⟩
        repeat first | refine nx ?_ | refine sq fun _ _ => ?_ | refine rg (sg ?_) | refine bl ?_ | refine sk (sg ?_) | refine xt (sg ?_) | refine lx (g := sg ?_) | refine ct (hx := ?_) | refine cf (hy := ?_) | refine lr (g := sg ?_) | refine rt (sg ?_) | refine rt ?_ | refine sk ?_ | refine xt ?_ | refine f1 (g := sg ?_) | refine f2 (g := sg ?_) | refine f3 (g := sg ?_) | refine And.intro (by first | assumption | omega) ?_
        refine ⟨by rw [List.length_take]; omega, by omega, by simp only [maxLen]; omega, ?_⟩
        rw [take_all (List.map (fun x => lc (cRow x)) (List.take i rows)) htl.symm]
        repeat first | refine nx ?_ | refine sq fun _ _ => ?_ | refine rg (sg ?_) | refine bl ?_ | refine sk (sg ?_) | refine xt (sg ?_) | refine lx (g := sg ?_) | refine ct (hx := ?_) | refine cf (hy := ?_) | refine lr (g := sg ?_) | refine rt (sg ?_) | refine rt ?_ | refine sk ?_ | refine xt ?_ | refine f1 (g := sg ?_) | refine f2 (g := sg ?_) | refine f3 (g := sg ?_) | refine And.intro (by first | assumption | omega) ?_
        refine ln (rows.length - (i + 1)) [0, 5] ?_ ?_
        · omega
        refine ⟨i + 1, rfl, by omega, ?_⟩
        have ht1 : rows.take (i + 1) = rows.take i ++ [rows[i]] := by rw [List.take_add_one, List.getElem?_eq_getElem hin]; rfl
        have ev : (C.sl rows[i].length 3 fun z => vw (List.map (fun x => lc (cCe x)) rows[i]) z) = rowA 3 cCe rows[i] := by
          rw [vw_lc]
          rfl
        simp only [hwi]
        refine sg ?_
        simp only [List.map_append, rows1_map, ht1, List.map_cons, List.map_nil]
        refine sg ?_
        rw [if_pos (Nat.le_refl _), ev]
        rfl
    · have hin : i = rows.length := by omega
      repeat first | refine nx ?_ | refine sq fun _ _ => ?_ | refine rg (sg ?_) | refine bl ?_ | refine sk (sg ?_) | refine xt (sg ?_) | refine lx (g := sg ?_) | refine ct (hx := ?_) | refine cf (hy := ?_) | refine lr (g := sg ?_) | refine rt (sg ?_) | refine rt ?_ | refine sk ?_ | refine xt ?_ | refine f1 (g := sg ?_) | refine f2 (g := sg ?_) | refine f3 (g := sg ?_) | refine And.intro (by first | assumption | omega) ?_
      refine ax [] ⟨?_, rfl⟩
      subst hin
      rw [List.take_length]
      rw [← view_own cRow rows (bx := [.var (lc (cQu (quA nm v l))) 42, .arr (rows.map fun x => lc (cRow x)) 1 98]) (id := 1) (e := 98) rfl rfl]
      rfl
end Go.Proofs.YtdedmhmomoejkaaDoor.V
