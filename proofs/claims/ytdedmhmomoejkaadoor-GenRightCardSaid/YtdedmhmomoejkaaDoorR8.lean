import Derived.Test.YtdedmhmomoejkaaDoorR7
namespace Go.Proofs.YtdedmhmomoejkaaDoor.V
open Go Go.RowKit Go.Proofs.YtdedmhmomoejkaaDoorW.PrintLast
open Go.Proofs
set_option linter.unusedVariables false
set_option linter.unusedSimpArgs false
attribute [local irreducible] awp
--IMP R7
set_option maxRecDepth 100000
set_option maxHeartbeats 4000000 in
theorem c46 (l : List Tb) (t : Tb) (m v : Int) (hm : m = 3 ∨ m = 6) (hl : l.length ≤ 1000) (hA : okA t.cols) (hK : okK t.cols) (hr : ∀ r ∈ t.rows, 0 < r.length) (ht : t.rows.length ≤ 1000) : PC Tryd.prog 46 [.one (.c (rowA 3 cTb l)), .agg (lc (cTb t)), .agg (lc (cPr (prA m v)))] [] (fun r bx => bx = [] ∧ ∃ (l' : List Tb) (n : Int), r = twoR l' 0 n nilC nilC ∧ l'.length ≤ l.length + 1 ∧ ∀ x ∈ l', (x.nm = t.nm ∧ x.cols = t.cols ∧ x.rows.length ≤ t.rows.length ∧ ∀ r ∈ x.rows, r ∈ t.rows) ∨ x ∈ l) := by
  have hcl : t.cols.length ≤ 1000 := by have := hK.2.2.2; omega
  refine enter (rs := [.tmp 6, .cell 7 50]) mx Tryd.func46 Tryd.ntmps46 fun Q0 hQ0 => ?_
  have hp : lc (cPr (prA m v)) = [.c (.v (.int .i64 2)), .c (.v (.string bA)), .c (.v (.int .i64 m)), .c (.v (.bool false)), .c (.v (.int .i64 v)), .c (.v (.string ⟨#[]⟩)), .c (.v (.int .i64 1)), .c (.v (.string ⟨#[]⟩)), .c (.sl 0 9 (elemsOf []))] := rfl
  simp only [lc_Tb t, hp]
  unfold rowA
  repeat first | refine nx ?_ | refine sq fun _ _ => ?_ | refine rg (sg ?_) | refine bl ?_ | refine sk (sg ?_) | refine xt (sg ?_) | refine lx (g := sg ?_) | refine ct (hx := ?_) | refine cf (hy := ?_) | refine lr (g := sg ?_) | refine rt (sg ?_) | refine rt ?_ | refine sk ?_ | refine xt ?_ | refine f1 (g := sg ?_) | refine f2 (g := sg ?_) | refine f3 (g := sg ?_) | refine And.intro (by first | assumption | omega) ?_
  refine cl [] (sg ?_)
  refine (c83 t.cols m v hm hA hK).mono ?_
  rintro r bx ⟨rfl, rfl⟩
  refine sg ?_
  repeat first | refine nx ?_ | refine sq fun _ _ => ?_ | refine rg (sg ?_) | refine bl ?_ | refine sk (sg ?_) | refine xt (sg ?_) | refine lx (g := sg ?_) | refine ct (hx := ?_) | refine cf (hy := ?_) | refine lr (g := sg ?_) | refine rt (sg ?_) | refine rt ?_ | refine sk ?_ | refine xt ?_ | refine f1 (g := sg ?_) | refine f2 (g := sg ?_) | refine f3 (g := sg ?_) | refine And.intro (by first | assumption | omega) ?_
  refine lp [0, 4, 5, 7, 9, 10] [0, 1, 2, 3] (fun k σ => ∃ (i : Nat) (out : List (List Ce)), k = t.rows.length - i ∧ i ≤ t.rows.length ∧ out.length ≤ i ∧ (∀ r ∈ out, r ∈ t.rows) ∧ σ = ⟨62, 0, [(0, .one (.c (.sl l.length 3 (elemsOf (l.map cTb))))), (4, .one (.ptr 0 0)), (5, .one (.ptr 1 0)), (7, .one (.ptr 2 0)), (9, .one (.own 3 1 0 out.length)), (10, .int .i64 i)], [.var (lc (cTb t)) 104, .var (lc (cPr (prA m v))) 38, .var [.c (.v (.int .i64 0)), .c (.v (.int .i64 0)), .c (.v (.slice none 0 0)), .c (.v (.slice none 0 0))] 50, .arr (out.map fun x => lc (cRow x)) 1 98]⟩) t.rows.length ?_ ?_
  · exact ⟨0, [], by omega, by omega, Nat.le_refl _, (fun x h => absurd h List.not_mem_nil), rfl⟩
  · rintro k σ' ⟨i, out, hk, hi, hlen, hall, rfl⟩ Q1 hQ1
    simp only [lc_Tb t, hp]
    repeat first | refine nx ?_ | refine sq fun _ _ => ?_ | refine rg (sg ?_) | refine bl ?_ | refine sk (sg ?_) | refine xt (sg ?_) | refine lx (g := sg ?_) | refine ct (hx := ?_) | refine cf (hy := ?_) | refine lr (g := sg ?_) | refine rt (sg ?_) | refine rt ?_ | refine sk ?_ | refine xt ?_ | refine f1 (g := sg ?_) | refine f2 (g := sg ?_) | refine f3 (g := sg ?_) | refine And.intro (by first | assumption | omega) ?_
    refine cb (fun h => ?_) (fun h => ?_)
    · have hin : i < t.rows.length := by omega
      have hwi : IntKind.i64.wrap ((i : Int) + 1) = ((i + 1 : Nat) : Int) := by rw [IntKind.wrap_i64]; omega
      have he := el_at (f := cRow) hin
      have hri := hr _ (List.getElem_mem hin)
      repeat first | refine nx ?_ | refine sq fun _ _ => ?_ | refine rg (sg ?_) | refine bl ?_ | refine sk (sg ?_) | refine xt (sg ?_) | refine lx (g := sg ?_) | refine ct (hx := ?_) | refine cf (hy := ?_) | refine lr (g := sg ?_) | refine rt (sg ?_) | refine rt ?_ | refine sk ?_ | refine xt ?_ | refine f1 (g := sg ?_) | refine f2 (g := sg ?_) | refine f3 (g := sg ?_) | refine And.intro (by first | assumption | omega) ?_
      refine dr [.take 0, .take 1, .take 2, .take 3, .take 4, .take 5, .take 6, .take 7, .one 8, .pure 9] [] (sg ?_)
      simp only [he]
      refine sg ?_
      refine ⟨⟨by omega, by omega⟩, ?_⟩
      refine cl [] (sg ?_)
      refine (c84 t.cols m v _ hA hcl hri).mono ?_
      rintro r bx ⟨⟨q, rfl⟩, rfl⟩
      refine sg ?_
      repeat first | refine nx ?_ | refine sq fun _ _ => ?_ | refine rg (sg ?_) | refine bl ?_ | refine sk (sg ?_) | refine xt (sg ?_) | refine lx (g := sg ?_) | refine ct (hx := ?_) | refine cf (hy := ?_) | refine lr (g := sg ?_) | refine rt (sg ?_) | refine rt ?_ | refine sk ?_ | refine xt ?_ | refine f1 (g := sg ?_) | refine f2 (g := sg ?_) | refine f3 (g := sg ?_) | refine And.intro (by first | assumption | omega) ?_
      refine cb (fun h2 => ?_) (fun h2 => ?_)
      · repeat first | refine nx ?_ | refine sq fun _ _ => ?_ | refine rg (sg ?_) | refine bl ?_ | refine sk (sg ?_) | refine xt (sg ?_) | refine lx (g := sg ?_) | refine ct (hx := ?_) | refine cf (hy := ?_) | refine lr (g := sg ?_) | refine rt (sg ?_) | refine rt ?_ | refine sk ?_ | refine xt ?_ | refine f1 (g := sg ?_) | refine f2 (g := sg ?_) | refine f3 (g := sg ?_) | refine And.intro (by first | assumption | omega) ?_
        simp only [he]
        refine sg ?_
        refine ⟨rfl, rfl, Nat.le_refl _, by omega, by simp only [maxLen]; omega, ?_⟩
        rw [take_all (List.map (fun x => lc (cRow x)) out) (List.length_map ..).symm]
        repeat first | refine nx ?_ | refine sq fun _ _ => ?_ | refine rg (sg ?_) | refine bl ?_ | refine sk (sg ?_) | refine xt (sg ?_) | refine lx (g := sg ?_) | refine ct (hx := ?_) | refine cf (hy := ?_) | refine lr (g := sg ?_) | refine rt (sg ?_) | refine rt ?_ | refine sk ?_ | refine xt ?_ | refine f1 (g := sg ?_) | refine f2 (g := sg ?_) | refine f3 (g := sg ?_) | refine And.intro (by first | assumption | omega) ?_
        refine ln (t.rows.length - (i + 1)) [0, 1, 2, 5] ?_ ?_
        · omega
        refine ⟨i + 1, out ++ [t.rows[i]], rfl, by omega, by simp; omega, fun x hx => (List.mem_append.1 hx).elim (hall x) fun h => by rw [List.mem_singleton.1 h]; exact List.getElem_mem hin, ?_⟩
        rw [← hwi]
        simp only [St.keep, List.length_append]
        refine sg ?_
        simp only [List.map_append, rows1_map, List.map_cons, List.map_nil]
        rfl
      · repeat first | refine nx ?_ | refine sq fun _ _ => ?_ | refine rg (sg ?_) | refine bl ?_ | refine sk (sg ?_) | refine xt (sg ?_) | refine lx (g := sg ?_) | refine ct (hx := ?_) | refine cf (hy := ?_) | refine lr (g := sg ?_) | refine rt (sg ?_) | refine rt ?_ | refine sk ?_ | refine xt ?_ | refine f1 (g := sg ?_) | refine f2 (g := sg ?_) | refine f3 (g := sg ?_) | refine And.intro (by first | assumption | omega) ?_
        refine ln (t.rows.length - (i + 1)) [0, 1, 2, 3] ?_ ?_
        · omega
        refine ⟨i + 1, out, rfl, by omega, by omega, hall, ?_⟩
        rw [← hwi]
        simp only [St.keep]
        refine sg ?_
        first | (simp only [rows1_map]; rfl) | rfl
    · repeat first | refine nx ?_ | refine sq fun _ _ => ?_ | refine rg (sg ?_) | refine bl ?_ | refine sk (sg ?_) | refine xt (sg ?_) | refine lx (g := sg ?_) | refine ct (hx := ?_) | refine cf (hy := ?_) | refine lr (g := sg ?_) | refine rt (sg ?_) | refine rt ?_ | refine sk ?_ | refine xt ?_ | refine f1 (g := sg ?_) | refine f2 (g := sg ?_) | refine f3 (g := sg ?_) | refine And.intro (by first | assumption | omega) ?_
      refine cl [] (sg ?_)
      have ev : (C.sl out.length 1 fun z => vw (List.map (fun r => lc (cRow r)) out) z) = rowA 1 cRow out := by
        rw [vw_lc]
        rfl
      rw [if_pos (Nat.le_refl _), ev]
      refine (c44 l ⟨t.nm, t.cols, out⟩ hl).mono ?_
      rintro r bx ⟨rfl, l', rfl, hl', hall'⟩
      refine sg ?_
      refine .inr ?_
      repeat first | refine nx ?_ | refine sq fun _ _ => ?_ | refine rg (sg ?_) | refine bl ?_ | refine sk (sg ?_) | refine xt (sg ?_) | refine lx (g := sg ?_) | refine ct (hx := ?_) | refine cf (hy := ?_) | refine lr (g := sg ?_) | refine rt (sg ?_) | refine rt ?_ | refine sk ?_ | refine xt ?_ | refine f1 (g := sg ?_) | refine f2 (g := sg ?_) | refine f3 (g := sg ?_) | refine And.intro (by first | assumption | omega) ?_
      refine ⟨_, _, rfl, rfl, ?_⟩
      refine ax [] ⟨rfl, l', _, rfl, hl', fun x hx => ?_⟩
      rcases hall' x hx with h | h
      · subst h
        exact .inl ⟨rfl, rfl, by show out.length ≤ _; omega, hall⟩
      · exact .inr h
end Go.Proofs.YtdedmhmomoejkaaDoor.V
