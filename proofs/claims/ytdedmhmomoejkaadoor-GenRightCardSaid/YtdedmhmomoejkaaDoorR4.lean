import Derived.Test.YtdedmhmomoejkaaDoorR3
namespace Go.Proofs.YtdedmhmomoejkaaDoor.V
open Go Go.RowKit Go.Proofs.YtdedmhmomoejkaaDoorW.PrintLast
open Go.Proofs
set_option linter.unusedVariables false
set_option linter.unusedSimpArgs false
attribute [local irreducible] awp
--IMP R3
set_option maxRecDepth 100000
/-- Tables, and a reply. -/
abbrev twoR (l : List Tb) (e n : Int) (x y : C) : A := .tup [([.c (rowA 3 cTb l)], false), ([.c (.v (.int .i64 e)), .c (.v (.int .i64 n)), .c x, .c y], true)]
theorem c41 (l : List Tb) (e : Int) : PC Tryd.prog 41 [.one (.c (rowA 3 cTb l)), .int .i64 e] [] (fun r bx => r = twoR l e 0 (.v (.slice none 0 0)) (.v (.slice none 0 0)) ∧ bx = []) := by
  refine enter (rs := [.tmp 4, .cell 5 50]) mx Tryd.func41 Tryd.ntmps41 fun Q0 hQ0 => ?_
  repeat first | refine nx ?_ | refine sq fun _ _ => ?_ | refine rg (sg ?_) | refine bl ?_ | refine sk (sg ?_) | refine xt (sg ?_) | refine lx (g := sg ?_) | refine ct (hx := ?_) | refine cf (hy := ?_) | refine lr (g := sg ?_) | refine rt (sg ?_) | refine rt ?_ | refine sk ?_ | refine xt ?_ | refine f1 (g := sg ?_) | refine f2 (g := sg ?_) | refine f3 (g := sg ?_) | refine And.intro (by first | assumption | omega) ?_
  refine ⟨_, _, rfl, rfl, ?_⟩
  exact ax [] ⟨rfl, rfl⟩
theorem tbs_map (l : List Tb) (bx : List B) (ρ : Nat → Option Nat) : (l.map fun x => lc (cTb x)).map (fun e => e.map (subL bx ρ)) = l.map fun x => lc (cTb x) := by
  rw [List.map_map]; rfl
theorem lc_Tb (t : Tb) : lc (cTb t) = [.c (.v (.string t.nm)), .c (.sl t.cols.length 3 (elemsOf (t.cols.map cCo))), .c (.sl t.rows.length 1 (elemsOf (t.rows.map cRow)))] := rfl
theorem take_all {α : Type} (l : List α) {n : Nat} (h : n = l.length) : l.take n = l := by subst h; exact List.take_length
set_option maxHeartbeats 4000000 in
theorem c44 (l : List Tb) (t : Tb) (hl : l.length ≤ 1000) : PC Tryd.prog 44 [.one (.c (rowA 3 cTb l)), .agg (lc (cTb t))] [] (fun r bx => bx = [] ∧ ∃ l' : List Tb, r = .one (.c (rowA 3 cTb l')) ∧ l'.length ≤ l.length + 1 ∧ ∀ x ∈ l', x = t ∨ x ∈ l) := by
  refine enter (rs := [.tmp 4]) mx Tryd.func44 Tryd.ntmps44 fun Q0 hQ0 => ?_
  simp only [lc_Tb t, rowA]
  repeat first | refine nx ?_ | refine sq fun _ _ => ?_ | refine rg (sg ?_) | refine bl ?_ | refine sk (sg ?_) | refine xt (sg ?_) | refine lx (g := sg ?_) | refine ct (hx := ?_) | refine cf (hy := ?_) | refine lr (g := sg ?_) | refine rt (sg ?_) | refine rt ?_ | refine sk ?_ | refine xt ?_ | refine f1 (g := sg ?_) | refine f2 (g := sg ?_) | refine f3 (g := sg ?_) | refine And.intro (by first | assumption | omega) ?_
  refine lp [0, 3, 5, 6, 7] [0, 1] (fun k σ => ∃ (i : Nat) (b : Bool) (out : List Tb), k = l.length - i ∧ i ≤ l.length ∧ out.length ≤ i + (if b then 1 else 0) ∧ (∀ x ∈ out, x = t ∨ x ∈ l) ∧ σ = ⟨53, 0, [(0, .one (.c (.sl l.length 3 (elemsOf (l.map cTb))))), (3, .one (.ptr 0 0)), (5, .one (.own 1 3 0 out.length)), (6, .bool b), (7, .int .i64 i)], [.var (lc (cTb t)) 104, .arr (out.map fun x => lc (cTb x)) 3 104]⟩) l.length ?_ ?_
  · exact ⟨0, false, [], by omega, by omega, by simp, (fun x h => absurd h List.not_mem_nil), rfl⟩
  · rintro k σ' ⟨i, b, out, hk, hi, hlen, hall, rfl⟩ Q1 hQ1
    have hb1 : (if b then 1 else 0) ≤ 1 := by cases b <;> decide
    simp only [lc_Tb t]
    repeat first | refine nx ?_ | refine sq fun _ _ => ?_ | refine rg (sg ?_) | refine bl ?_ | refine sk (sg ?_) | refine xt (sg ?_) | refine lx (g := sg ?_) | refine ct (hx := ?_) | refine cf (hy := ?_) | refine lr (g := sg ?_) | refine rt (sg ?_) | refine rt ?_ | refine sk ?_ | refine xt ?_ | refine f1 (g := sg ?_) | refine f2 (g := sg ?_) | refine f3 (g := sg ?_) | refine And.intro (by first | assumption | omega) ?_
    refine cb (fun h => ?_) (fun h => ?_)
    · have hin : i < l.length := by omega
      have hwi : IntKind.i64.wrap ((i : Int) + 1) = ((i + 1 : Nat) : Int) := by rw [IntKind.wrap_i64]; omega
      have he := el_at (f := cTb) hin
      repeat first | refine nx ?_ | refine sq fun _ _ => ?_ | refine rg (sg ?_) | refine bl ?_ | refine sk (sg ?_) | refine xt (sg ?_) | refine lx (g := sg ?_) | refine ct (hx := ?_) | refine cf (hy := ?_) | refine lr (g := sg ?_) | refine rt (sg ?_) | refine rt ?_ | refine sk ?_ | refine xt ?_ | refine f1 (g := sg ?_) | refine f2 (g := sg ?_) | refine f3 (g := sg ?_) | refine And.intro (by first | assumption | omega) ?_
      refine dr [.take 0, .take 1, .take 2, .take 3, .take 4, .take 5, .take 6, .take 7, .take 8, .take 9, .take 10, .take 11] [] (sg ?_)
      simp only [he]
      refine sg ?_
      refine ⟨fun h1 => ⟨h1, h1, by omega, by omega⟩, ?_⟩
      repeat first | refine nx ?_ | refine sq fun _ _ => ?_ | refine rg (sg ?_) | refine bl ?_ | refine sk (sg ?_) | refine xt (sg ?_) | refine lx (g := sg ?_) | refine ct (hx := ?_) | refine cf (hy := ?_) | refine lr (g := sg ?_) | refine rt (sg ?_) | refine rt ?_ | refine sk ?_ | refine xt ?_ | refine f1 (g := sg ?_) | refine f2 (g := sg ?_) | refine f3 (g := sg ?_) | refine And.intro (by first | assumption | omega) ?_
      refine cb (fun h2 => ?_) (fun h2 => ?_)
      · have hbf : b = false := by cases b with | false => rfl | true => simp at h2
        subst hbf
        repeat first | refine nx ?_ | refine sq fun _ _ => ?_ | refine rg (sg ?_) | refine bl ?_ | refine sk (sg ?_) | refine xt (sg ?_) | refine lx (g := sg ?_) | refine ct (hx := ?_) | refine cf (hy := ?_) | refine lr (g := sg ?_) | refine rt (sg ?_) | refine rt ?_ | refine sk ?_ | refine xt ?_ | refine f1 (g := sg ?_) | refine f2 (g := sg ?_) | refine f3 (g := sg ?_) | refine And.intro (by first | assumption | omega) ?_
        simp only [Bool.false_eq_true, if_false] at hlen
        refine ⟨by simp only [maxLen]; omega, ?_⟩
        rw [take_all (List.map (fun x => lc (cTb x)) out) (List.length_map ..).symm]
        repeat first | refine nx ?_ | refine sq fun _ _ => ?_ | refine rg (sg ?_) | refine bl ?_ | refine sk (sg ?_) | refine xt (sg ?_) | refine lx (g := sg ?_) | refine ct (hx := ?_) | refine cf (hy := ?_) | refine lr (g := sg ?_) | refine rt (sg ?_) | refine rt ?_ | refine sk ?_ | refine xt ?_ | refine f1 (g := sg ?_) | refine f2 (g := sg ?_) | refine f3 (g := sg ?_) | refine And.intro (by first | assumption | omega) ?_
        refine dr [.take 0, .take 1, .take 2, .take 3, .take 4, .take 5, .take 6, .take 7] [] (sg ?_)
        simp only [he]
        refine sg ?_
        refine ⟨⟨by omega, by omega⟩, ?_⟩
        repeat first | refine nx ?_ | refine sq fun _ _ => ?_ | refine rg (sg ?_) | refine bl ?_ | refine sk (sg ?_) | refine xt (sg ?_) | refine lx (g := sg ?_) | refine ct (hx := ?_) | refine cf (hy := ?_) | refine lr (g := sg ?_) | refine rt (sg ?_) | refine rt ?_ | refine sk ?_ | refine xt ?_ | refine f1 (g := sg ?_) | refine f2 (g := sg ?_) | refine f3 (g := sg ?_) | refine And.intro (by first | assumption | omega) ?_
        refine cb (fun h3 => ?_) (fun h3 => ?_)
        · repeat first | refine nx ?_ | refine sq fun _ _ => ?_ | refine rg (sg ?_) | refine bl ?_ | refine sk (sg ?_) | refine xt (sg ?_) | refine lx (g := sg ?_) | refine ct (hx := ?_) | refine cf (hy := ?_) | refine lr (g := sg ?_) | refine rt (sg ?_) | refine rt ?_ | refine sk ?_ | refine xt ?_ | refine f1 (g := sg ?_) | refine f2 (g := sg ?_) | refine f3 (g := sg ?_) | refine And.intro (by first | assumption | omega) ?_
          simp only [he]
          refine sg ?_
          refine ⟨Nat.le_refl _, by omega, by simp only [maxLen]; omega, ?_⟩
          rw [take_all (List.map (fun x => lc (cTb x)) out ++ [[L.c (.v (.string t.nm)), .c (.sl t.cols.length 3 (elemsOf (t.cols.map cCo))), .c (.sl t.rows.length 1 (elemsOf (t.rows.map cRow)))]]) (by simp)]
          repeat first | refine nx ?_ | refine sq fun _ _ => ?_ | refine rg (sg ?_) | refine bl ?_ | refine sk (sg ?_) | refine xt (sg ?_) | refine lx (g := sg ?_) | refine ct (hx := ?_) | refine cf (hy := ?_) | refine lr (g := sg ?_) | refine rt (sg ?_) | refine rt ?_ | refine sk ?_ | refine xt ?_ | refine f1 (g := sg ?_) | refine f2 (g := sg ?_) | refine f3 (g := sg ?_) | refine And.intro (by first | assumption | omega) ?_
          refine ln (l.length - (i + 1)) [0, 5] ?_ ?_
          · omega
          refine ⟨i + 1, true, (out ++ [t] ++ [l[i]]), rfl, by omega, ?_, ?_, ?_⟩
          · first | omega | (simp only [List.length_append, List.length_cons, List.length_nil, if_true, Bool.false_eq_true, if_false] at hlen ⊢; omega)
          · exact fun x hx => (List.mem_append.1 hx).elim (fun h => (List.mem_append.1 h).elim (hall x) fun h => .inl (List.mem_singleton.1 h)) fun h => .inr (by rw [List.mem_singleton.1 h]; exact List.getElem_mem hin)
          rw [← hwi]
          simp only [St.keep, List.length_append]
          refine sg ?_
          first | (simp only [List.map_append, tbs_map, List.map_cons, List.map_nil]; rfl) | rfl
        · repeat first | refine nx ?_ | refine sq fun _ _ => ?_ | refine rg (sg ?_) | refine bl ?_ | refine sk (sg ?_) | refine xt (sg ?_) | refine lx (g := sg ?_) | refine ct (hx := ?_) | refine cf (hy := ?_) | refine lr (g := sg ?_) | refine rt (sg ?_) | refine rt ?_ | refine sk ?_ | refine xt ?_ | refine f1 (g := sg ?_) | refine f2 (g := sg ?_) | refine f3 (g := sg ?_) | refine And.intro (by first | assumption | omega) ?_
          refine ln (l.length - (i + 1)) [0, 3] ?_ ?_
          · omega
          refine ⟨i + 1, true, (out ++ [t]), rfl, by omega, ?_, ?_, ?_⟩
          · first | omega | (simp only [List.length_append, List.length_cons, List.length_nil, if_true, Bool.false_eq_true, if_false] at hlen ⊢; omega)
          · exact fun x hx => (List.mem_append.1 hx).elim (hall x) fun h => .inl (List.mem_singleton.1 h)
          rw [← hwi]
          simp only [St.keep, List.length_append]
          refine sg ?_
          first | (simp only [List.map_append, tbs_map, List.map_cons, List.map_nil]; rfl) | rfl
      · repeat first | refine nx ?_ | refine sq fun _ _ => ?_ | refine rg (sg ?_) | refine bl ?_ | refine sk (sg ?_) | refine xt (sg ?_) | refine lx (g := sg ?_) | refine ct (hx := ?_) | refine cf (hy := ?_) | refine lr (g := sg ?_) | refine rt (sg ?_) | refine rt ?_ | refine sk ?_ | refine xt ?_ | refine f1 (g := sg ?_) | refine f2 (g := sg ?_) | refine f3 (g := sg ?_) | refine And.intro (by first | assumption | omega) ?_
        refine dr [.take 0, .take 1, .take 2, .take 3, .take 4, .take 5, .take 6, .take 7] [] (sg ?_)
        simp only [he]
        refine sg ?_
        refine ⟨⟨by omega, by omega⟩, ?_⟩
        repeat first | refine nx ?_ | refine sq fun _ _ => ?_ | refine rg (sg ?_) | refine bl ?_ | refine sk (sg ?_) | refine xt (sg ?_) | refine lx (g := sg ?_) | refine ct (hx := ?_) | refine cf (hy := ?_) | refine lr (g := sg ?_) | refine rt (sg ?_) | refine rt ?_ | refine sk ?_ | refine xt ?_ | refine f1 (g := sg ?_) | refine f2 (g := sg ?_) | refine f3 (g := sg ?_) | refine And.intro (by first | assumption | omega) ?_
        refine cb (fun h3 => ?_) (fun h3 => ?_)
        · repeat first | refine nx ?_ | refine sq fun _ _ => ?_ | refine rg (sg ?_) | refine bl ?_ | refine sk (sg ?_) | refine xt (sg ?_) | refine lx (g := sg ?_) | refine ct (hx := ?_) | refine cf (hy := ?_) | refine lr (g := sg ?_) | refine rt (sg ?_) | refine rt ?_ | refine sk ?_ | refine xt ?_ | refine f1 (g := sg ?_) | refine f2 (g := sg ?_) | refine f3 (g := sg ?_) | refine And.intro (by first | assumption | omega) ?_
          simp only [he]
          refine sg ?_
          refine ⟨Nat.le_refl _, by omega, ?_⟩
          refine ⟨by simp only [maxLen]; omega, ?_⟩
          rw [take_all (List.map (fun x => lc (cTb x)) out) (List.length_map ..).symm]
          repeat first | refine nx ?_ | refine sq fun _ _ => ?_ | refine rg (sg ?_) | refine bl ?_ | refine sk (sg ?_) | refine xt (sg ?_) | refine lx (g := sg ?_) | refine ct (hx := ?_) | refine cf (hy := ?_) | refine lr (g := sg ?_) | refine rt (sg ?_) | refine rt ?_ | refine sk ?_ | refine xt ?_ | refine f1 (g := sg ?_) | refine f2 (g := sg ?_) | refine f3 (g := sg ?_) | refine And.intro (by first | assumption | omega) ?_
          refine ln (l.length - (i + 1)) [0, 3] ?_ ?_
          · omega
          refine ⟨i + 1, b, (out ++ [l[i]]), rfl, by omega, ?_, ?_, ?_⟩
          · first | omega | (simp only [List.length_append, List.length_cons, List.length_nil, if_true, Bool.false_eq_true, if_false] at hlen ⊢; omega)
          · exact fun x hx => (List.mem_append.1 hx).elim (hall x) fun h => .inr (by rw [List.mem_singleton.1 h]; exact List.getElem_mem hin)
          rw [← hwi]
          simp only [St.keep, List.length_append]
          refine sg ?_
          first | (simp only [List.map_append, tbs_map, List.map_cons, List.map_nil]; rfl) | rfl
        · repeat first | refine nx ?_ | refine sq fun _ _ => ?_ | refine rg (sg ?_) | refine bl ?_ | refine sk (sg ?_) | refine xt (sg ?_) | refine lx (g := sg ?_) | refine ct (hx := ?_) | refine cf (hy := ?_) | refine lr (g := sg ?_) | refine rt (sg ?_) | refine rt ?_ | refine sk ?_ | refine xt ?_ | refine f1 (g := sg ?_) | refine f2 (g := sg ?_) | refine f3 (g := sg ?_) | refine And.intro (by first | assumption | omega) ?_
          refine ln (l.length - (i + 1)) [0, 1] ?_ ?_
          · omega
          refine ⟨i + 1, b, out, rfl, by omega, ?_, ?_, ?_⟩
          · first | omega | (simp only [List.length_append, List.length_cons, List.length_nil, if_true, Bool.false_eq_true, if_false] at hlen ⊢; omega)
          · exact hall
          rw [← hwi]
          simp only [St.keep, List.length_append]
          refine sg ?_
          first | (simp only [List.map_append, tbs_map, List.map_cons, List.map_nil]; rfl) | rfl
    · have hin : i = l.length := by omega
      repeat first | refine nx ?_ | refine sq fun _ _ => ?_ | refine rg (sg ?_) | refine bl ?_ | refine sk (sg ?_) | refine xt (sg ?_) | refine lx (g := sg ?_) | refine ct (hx := ?_) | refine cf (hy := ?_) | refine lr (g := sg ?_) | refine rt (sg ?_) | refine rt ?_ | refine sk ?_ | refine xt ?_ | refine f1 (g := sg ?_) | refine f2 (g := sg ?_) | refine f3 (g := sg ?_) | refine And.intro (by first | assumption | omega) ?_
      refine cb (fun h2 => ?_) (fun h2 => ?_)
      · repeat first | refine nx ?_ | refine sq fun _ _ => ?_ | refine rg (sg ?_) | refine bl ?_ | refine sk (sg ?_) | refine xt (sg ?_) | refine lx (g := sg ?_) | refine ct (hx := ?_) | refine cf (hy := ?_) | refine lr (g := sg ?_) | refine rt (sg ?_) | refine rt ?_ | refine sk ?_ | refine xt ?_ | refine f1 (g := sg ?_) | refine f2 (g := sg ?_) | refine f3 (g := sg ?_) | refine And.intro (by first | assumption | omega) ?_
        refine ⟨by simp only [maxLen]; omega, ?_⟩
        rw [take_all (List.map (fun x => lc (cTb x)) out) (List.length_map ..).symm]
        repeat first | refine nx ?_ | refine sq fun _ _ => ?_ | refine rg (sg ?_) | refine bl ?_ | refine sk (sg ?_) | refine xt (sg ?_) | refine lx (g := sg ?_) | refine ct (hx := ?_) | refine cf (hy := ?_) | refine lr (g := sg ?_) | refine rt (sg ?_) | refine rt ?_ | refine sk ?_ | refine xt ?_ | refine f1 (g := sg ?_) | refine f2 (g := sg ?_) | refine f3 (g := sg ?_) | refine And.intro (by first | assumption | omega) ?_
        refine ax [] ⟨rfl, out ++ [t], ?_, ?_, ?_⟩
        · rw [← view_own cTb (out ++ [t]) (bx := [.var (lc (cTb t)) 104, .hid, .arr [lc (cTb t)] 3 104, .arr ((out ++ [t]).map fun x => lc (cTb x)) 3 104]) (id := 3) (e := 104) (n := out.length + 1) rfl (by simp)]
          rw [List.map_append]
          rfl
        · cases b
          · simp only [List.length_append, List.length_cons, List.length_nil, Bool.false_eq_true, if_false] at hlen ⊢
            omega
          · simp at h2
        · exact fun x hx => (List.mem_append.1 hx).elim (hall x) fun h => .inl (List.mem_singleton.1 h)
      · repeat first | refine nx ?_ | refine sq fun _ _ => ?_ | refine rg (sg ?_) | refine bl ?_ | refine sk (sg ?_) | refine xt (sg ?_) | refine lx (g := sg ?_) | refine ct (hx := ?_) | refine cf (hy := ?_) | refine lr (g := sg ?_) | refine rt (sg ?_) | refine rt ?_ | refine sk ?_ | refine xt ?_ | refine f1 (g := sg ?_) | refine f2 (g := sg ?_) | refine f3 (g := sg ?_) | refine And.intro (by first | assumption | omega) ?_
        refine ax [] ⟨rfl, out, ?_, by omega, hall⟩
        rw [← view_own cTb out (bx := [.var (lc (cTb t)) 104, .arr (out.map fun x => lc (cTb x)) 3 104]) (id := 1) (e := 104) rfl rfl]
        rfl
end Go.Proofs.YtdedmhmomoejkaaDoor.V
