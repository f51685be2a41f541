import Derived.Test.YtdedmhmomoejkaaDoorK2
namespace Go.Proofs.YtdedmhmomoejkaaDoor.V
open Go Go.RowKit Go.Proofs.YtdedmhmomoejkaaDoorW.PrintLast
open Go.Proofs
set_option linter.unusedVariables false
set_option linter.unusedSimpArgs false
attribute [local irreducible] awp
--IMP K2
set_option maxRecDepth 100000
theorem name_at (t : Int) (h0 : 0 ≤ t) (h1 : t < 3) : (List.take 1 ([[L.c (C.v (Value.string ⟨#[116, 48]⟩))], [L.c (C.v (Value.string ⟨#[116, 49]⟩))], [L.c (C.v (Value.string ⟨#[116, 50]⟩))]].getD t.toNat [])).headD L.junk = L.c (.v (.string (nameS t))) := by
  have : t = 0 ∨ t = 1 ∨ t = 2 := by omega
  rcases this with rfl | rfl | rfl
  · exact congrArg (fun x => L.c (.v (.string x))) (by decide)
  · exact congrArg (fun x => L.c (.v (.string x))) (by decide)
  · exact congrArg (fun x => L.c (.v (.string x))) (by decide)
def zL : List L := [.c (.v (.int .i64 0)), .c (.v (.string ⟨#[]⟩)), .c (.v (.slice none 0 0)), .c (.v (.slice none 0 0)), .c (.v (.int .i64 0)), .c (.v (.string ⟨#[]⟩)), .c (.v (.int .i64 0)), .c (.v (.bool false)), .c (.v (.int .i64 0)), .c (.v (.string ⟨#[]⟩)), .c (.v (.int .i64 0)), .c (.v (.string ⟨#[]⟩)), .c (.v (.slice none 0 0)), .c (.v (.string ⟨#[]⟩)), .c (.v (.slice none 0 0)), .c (.v (.int .i64 0)), .c (.v (.string ⟨#[]⟩)), .c (.v (.int .i64 0)), .c (.v (.bool false)), .c (.v (.int .i64 0)), .c (.v (.string ⟨#[]⟩)), .c (.v (.int .i64 0)), .c (.v (.string ⟨#[]⟩)), .c (.v (.slice none 0 0)), .c (.v (.slice none 0 0)), .c (.v (.string ⟨#[]⟩))]
def oL (k : Int) (nm : ByteArray) (x : L) : List L := .c (.v (.int .i64 k)) :: .c (.v (.string nm)) :: .c (.v (.slice none 0 0)) :: x :: zL.drop 4
theorem colsS_len2 (t : Nat) (h : t ≤ 2) : (colsS t).length = t + 1 := by
  have : t = 0 ∨ t = 1 ∨ t = 2 := by omega
  rcases this with rfl | rfl | rfl <;> rfl
theorem colsS_ty (t j : Nat) (h : j < (colsS t).length) (h2 : t ≤ 2) : ((colsS t)[j]'h).ty = tyc j := by
  have hl := colsS_len2 t h2
  have h3 : t = 0 ∨ t = 1 ∨ t = 2 := by omega
  have h4 : j = 0 ∨ j = 1 ∨ j = 2 := by omega
  rcases h3 with h3 | h3 | h3 <;> rcases h4 with h4 | h4 | h4 <;> subst h3 <;> subst h4 <;> first | rfl | omega
theorem rows1_map (l : List (List Ce)) (bx : List B) (ρ : Nat → Option Nat) : (l.map fun x => lc (cRow x)).map (fun e => e.map (subL bx ρ)) = l.map fun x => lc (cRow x) := by
  rw [List.map_map]; rfl
theorem leL_own {α : Type} (f : α → List C) (l : List α) {bx : List B} {id sz n e : Nat} (h : bx[id]? = some (.arr (l.map fun x => lc (f x)) sz e)) (hn : l.length = n) : leL (viewL bx (.own id sz 0 n)) (.c (rowA sz f l)) := by
  rw [view_own f l h hn]
  exact .refl _
set_option maxHeartbeats 8000000 in
theorem c15 (a : Int) : PC Tryd.prog 15 [rA] [rB a] (fun r bx => r = .agg (lc (cOp (oneS a).1)) ∧ bx = [rB (oneS a).2]) := by
  refine enter (rs := [.cell 2 44]) mx Tryd.func15 Tryd.ntmps15 fun Q0 hQ0 => ?_
  repeat first | refine nx ?_ | refine sq fun _ _ => ?_ | refine rg (sg ?_) | refine bl ?_ | refine sk (sg ?_) | refine xt (sg ?_) | refine lx (g := sg ?_) | refine ct (hx := ?_) | refine cf (hy := ?_) | refine lr (g := sg ?_) | refine rt (sg ?_) | refine rt ?_ | refine sk ?_ | refine xt ?_ | refine f1 (g := sg ?_) | refine f2 (g := sg ?_) | refine f3 (g := sg ?_) | refine And.intro (by first | assumption | omega) ?_
  refine cl [0] (sg ?_)
  refine (c37 12 a (by omega) (by omega)).mono ?_
  rintro r bx ⟨rfl, rfl⟩
  refine sg ?_
  refine cl [0] (sg ?_)
  refine (c37 3 _ (by omega) (by omega)).mono ?_
  rintro r bx ⟨rfl, rfl⟩
  refine sg ?_
  have hd := drw_rng 12 a (by omega) (by omega)
  obtain ⟨ht0, ht1⟩ := drw_rng 3 (nxt a) (by omega) (by omega)
  repeat first | refine nx ?_ | refine sq fun _ _ => ?_ | refine rg (sg ?_) | refine bl ?_ | refine sk (sg ?_) | refine xt (sg ?_) | refine lx (g := sg ?_) | refine ct (hx := ?_) | refine cf (hy := ?_) | refine lr (g := sg ?_) | refine rt (sg ?_) | refine rt ?_ | refine sk ?_ | refine xt ?_ | refine f1 (g := sg ?_) | refine f2 (g := sg ?_) | refine f3 (g := sg ?_) | refine And.intro (by first | assumption | omega) ?_
  simp only [name_at _ ht0 ht1]
  refine sg ?_
  repeat first | refine nx ?_ | refine sq fun _ _ => ?_ | refine rg (sg ?_) | refine bl ?_ | refine sk (sg ?_) | refine xt (sg ?_) | refine lx (g := sg ?_) | refine ct (hx := ?_) | refine cf (hy := ?_) | refine lr (g := sg ?_) | refine rt (sg ?_) | refine rt ?_ | refine sk ?_ | refine xt ?_ | refine f1 (g := sg ?_) | refine f2 (g := sg ?_) | refine f3 (g := sg ?_) | refine And.intro (by first | assumption | omega) ?_
  refine cb (fun h0 => ?_) (fun h0 => ?_)
  · repeat first | refine nx ?_ | refine sq fun _ _ => ?_ | refine rg (sg ?_) | refine bl ?_ | refine sk (sg ?_) | refine xt (sg ?_) | refine lx (g := sg ?_) | refine ct (hx := ?_) | refine cf (hy := ?_) | refine lr (g := sg ?_) | refine rt (sg ?_) | refine rt ?_ | refine sk ?_ | refine xt ?_ | refine f1 (g := sg ?_) | refine f2 (g := sg ?_) | refine f3 (g := sg ?_) | refine And.intro (by first | assumption | omega) ?_
    refine cl [] (sg ?_)
    refine (c13 _).mono ?_
    rintro r bx ⟨rfl, rfl⟩
    refine sg ?_
    refine ⟨rfl, rfl, ?_⟩
    repeat first | refine nx ?_ | refine sq fun _ _ => ?_ | refine rg (sg ?_) | refine bl ?_ | refine sk (sg ?_) | refine xt (sg ?_) | refine lx (g := sg ?_) | refine ct (hx := ?_) | refine cf (hy := ?_) | refine lr (g := sg ?_) | refine rt (sg ?_) | refine rt ?_ | refine sk ?_ | refine xt ?_ | refine f1 (g := sg ?_) | refine f2 (g := sg ?_) | refine f3 (g := sg ?_) | refine And.intro (by first | assumption | omega) ?_
    refine ⟨rfl, ?_⟩
    repeat first | refine nx ?_ | refine sq fun _ _ => ?_ | refine rg (sg ?_) | refine bl ?_ | refine sk (sg ?_) | refine xt (sg ?_) | refine lx (g := sg ?_) | refine ct (hx := ?_) | refine cf (hy := ?_) | refine lr (g := sg ?_) | refine rt (sg ?_) | refine rt ?_ | refine sk ?_ | refine xt ?_ | refine f1 (g := sg ?_) | refine f2 (g := sg ?_) | refine f3 (g := sg ?_) | refine And.intro (by first | assumption | omega) ?_
    have e : oneS a = (⟨1, nameS (drw 3 (nxt a)), colsS (drw 3 (nxt a)), [], pr0, qu0⟩, (nxt (nxt a))) := by
      unfold oneS
      rw [if_pos (show drw 12 a = 0 by omega)]
    rw [e]
    refine aw [] (.agg (lc (cOp ⟨1, nameS (drw 3 (nxt a)), colsS (drw 3 (nxt a)), [], pr0, qu0⟩))) [rB (nxt (nxt a))] ?_ (leBs.refl _) ⟨rfl, rfl⟩
    simp only [cOp, cQu, whereS, pr0, qu0, cPr, lc, List.map_cons, List.map_nil, List.map_append, List.length_nil, List.cons_append, List.nil_append]
    refine .agg ?_
    repeat first | exact leLs.nil | refine leLs.cons (by first | exact .refl _ | exact .c _ _ (.nil _ _) | exact .c _ _ (row_le fun i hi j hj => by rcases i with _ | _ | _ | i <;> rcases j with _ | _ | _ | j <;> first | rfl | omega)) ?_
  · repeat first | refine nx ?_ | refine sq fun _ _ => ?_ | refine rg (sg ?_) | refine bl ?_ | refine sk (sg ?_) | refine xt (sg ?_) | refine lx (g := sg ?_) | refine ct (hx := ?_) | refine cf (hy := ?_) | refine lr (g := sg ?_) | refine rt (sg ?_) | refine rt ?_ | refine sk ?_ | refine xt ?_ | refine f1 (g := sg ?_) | refine f2 (g := sg ?_) | refine f3 (g := sg ?_) | refine And.intro (by first | assumption | omega) ?_
    refine cb (fun h1 => ?_) (fun h1 => ?_)
    · repeat first | refine nx ?_ | refine sq fun _ _ => ?_ | refine rg (sg ?_) | refine bl ?_ | refine sk (sg ?_) | refine xt (sg ?_) | refine lx (g := sg ?_) | refine ct (hx := ?_) | refine cf (hy := ?_) | refine lr (g := sg ?_) | refine rt (sg ?_) | refine rt ?_ | refine sk ?_ | refine xt ?_ | refine f1 (g := sg ?_) | refine f2 (g := sg ?_) | refine f3 (g := sg ?_) | refine And.intro (by first | assumption | omega) ?_
      refine cl [0] (sg ?_)
      refine (c37 4 _ (by omega) (by omega)).mono ?_
      rintro r bx ⟨rfl, rfl⟩
      refine sg ?_
      repeat first | refine nx ?_ | refine sq fun _ _ => ?_ | refine rg (sg ?_) | refine bl ?_ | refine sk (sg ?_) | refine xt (sg ?_) | refine lx (g := sg ?_) | refine ct (hx := ?_) | refine cf (hy := ?_) | refine lr (g := sg ?_) | refine rt (sg ?_) | refine rt ?_ | refine sk ?_ | refine xt ?_ | refine f1 (g := sg ?_) | refine f2 (g := sg ?_) | refine f3 (g := sg ?_) | refine And.intro (by first | assumption | omega) ?_
      have hd4 := drw_rng 4 (nxt (nxt a)) (by omega) (by omega)
      obtain ⟨n, hn⟩ : ∃ n : Nat, 1 + drw 4 (nxt (nxt a)) = (n : Int) := ⟨(1 + drw 4 (nxt (nxt a))).toNat, by omega⟩
      have hw : IntKind.i64.wrap (1 + drw 4 (nxt (nxt a))) = (n : Int) := by rw [IntKind.wrap_i64]; omega
      obtain ⟨tn, htn⟩ : ∃ tn : Nat, drw 3 (nxt a) = (tn : Int) := ⟨(drw 3 (nxt a)).toNat, by omega⟩
      have e : oneS a = (⟨3, nameS (tn : Int), [], (rowsS (colsS tn) n (nxt (nxt (nxt a)))).1, pr0, qu0⟩, (rowsS (colsS tn) n (nxt (nxt (nxt a)))).2) := by
        unfold oneS
        rw [if_neg (show ¬ drw 12 a = 0 by omega), if_pos (show drw 12 a < 5 by omega)]
        unfold rows1
        simp only [hn, htn, Int.toNat_natCast]
      rw [e] at hQ0
      simp only [hw, htn]
      generalize nxt (nxt (nxt a)) = s0 at hQ0 ⊢
      have hn4 : 1 ≤ n ∧ n ≤ 4 := by omega
      have htn2 : tn ≤ 2 := by omega
      have hcl := colsS_len2 tn htn2
      refine lp [0, 2, 4, 5, 6, 7] [1, 3] (fun k σ => ∃ i : Nat, k = n - i ∧ i ≤ n ∧ ∃ x X, σ = ⟨92, 1, [(0, rA), (2, .one (.ptr 1 0)), (4, .int .i64 tn), (5, .one (.ptr 2 0)), (6, .int .i64 n), (7, .int .i64 i)], rB (rowsS (colsS tn) i s0).2 :: .var zL 44 :: .var (oL 3 (nameS tn) x) 44 :: X⟩ ∧ ((i = 0 ∧ x = .c (.v (.slice none 0 0)) ∧ X = []) ∨ (0 < i ∧ x = .own 3 1 0 i ∧ X = [.arr ((rowsS (colsS tn) i s0).1.map fun r => lc (cRow r)) 1 98]))) n ?_ ?_
      · exact ⟨0, by omega, by omega, _, _, rfl, .inl ⟨rfl, rfl, rfl⟩⟩
      · rintro k σ' ⟨i, hk, hi, x, X, rfl, hX⟩ Q1 hQ1
        simp only [oL, zL, List.drop_succ_cons, List.drop_zero]
        repeat first | refine nx ?_ | refine sq fun _ _ => ?_ | refine rg (sg ?_) | refine bl ?_ | refine sk (sg ?_) | refine xt (sg ?_) | refine lx (g := sg ?_) | refine ct (hx := ?_) | refine cf (hy := ?_) | refine lr (g := sg ?_) | refine rt (sg ?_) | refine rt ?_ | refine sk ?_ | refine xt ?_ | refine f1 (g := sg ?_) | refine f2 (g := sg ?_) | refine f3 (g := sg ?_) | refine And.intro (by first | assumption | omega) ?_
        refine cb (fun h => ?_) (fun h => ?_)
        · have hin : i < n := by omega
          have hwi : IntKind.i64.wrap ((i : Int) + 1) = ((i + 1 : Nat) : Int) := by rw [IntKind.wrap_i64]; omega
          rcases hX with ⟨hi0, rfl, rfl⟩ | ⟨hi0, rfl, rfl⟩
          · skip
            repeat first | refine nx ?_ | refine sq fun _ _ => ?_ | refine rg (sg ?_) | refine bl ?_ | refine sk (sg ?_) | refine xt (sg ?_) | refine lx (g := sg ?_) | refine ct (hx := ?_) | refine cf (hy := ?_) | refine lr (g := sg ?_) | refine rt (sg ?_) | refine rt ?_ | refine sk ?_ | refine xt ?_ | refine f1 (g := sg ?_) | refine f2 (g := sg ?_) | refine f3 (g := sg ?_) | refine And.intro (by first | assumption | omega) ?_
            refine lp [0, 2, 4, 5, 6, 7, 8, 9] [1, 2, 3] (fun k σ => ∃ j : Nat, k = tn + 1 - j ∧ j ≤ tn + 1 ∧ σ = ⟨92, 1, [(0, rA), (2, .one (.ptr 1 0)), (4, .int .i64 tn), (5, .one (.ptr 2 0)), (6, .int .i64 n), (7, .int .i64 i), (8, .one (.own 3 3 0 j)), (9, .int .i64 j)],
              [rB (rowS ((colsS tn).take j) (rowsS (colsS tn) i s0).2).2, .var zL 44, .var (oL 3 (nameS tn) (.c (.v (.slice none 0 0)))) 44, .arr ((rowS ((colsS tn).take j) (rowsS (colsS tn) i s0).2).1.map fun x => lc (cCe x)) 3 35]⟩) (tn + 1) ?_ ?_
            · refine ⟨0, by omega, by omega, ?_⟩
              rfl
            · rintro k2 σ2 ⟨j, hk2, hj, rfl⟩ Q2 hQ2
              simp only [oL, zL, List.drop_succ_cons, List.drop_zero]
              have hrl : (rowS ((colsS tn).take j) (rowsS (colsS tn) i s0).2).1.length = j := by rw [rowS_len, List.length_take]; omega
              repeat first | refine nx ?_ | refine sq fun _ _ => ?_ | refine rg (sg ?_) | refine bl ?_ | refine sk (sg ?_) | refine xt (sg ?_) | refine lx (g := sg ?_) | refine ct (hx := ?_) | refine cf (hy := ?_) | refine lr (g := sg ?_) | refine rt (sg ?_) | refine rt ?_ | refine sk ?_ | refine xt ?_ | refine f1 (g := sg ?_) | refine f2 (g := sg ?_) | refine f3 (g := sg ?_) | refine And.intro (by first | assumption | omega) ?_
              refine cb (fun h2 => ?_) (fun h2 => ?_)
              · have hjn : j < (colsS tn).length := by omega
                have hwj : IntKind.i64.wrap ((j : Int) + 1) = ((j + 1 : Nat) : Int) := by rw [IntKind.wrap_i64]; omega
                have ht : (colsS tn).take (j + 1) = (colsS tn).take j ++ [(colsS tn)[j]] := by rw [List.take_add_one, List.getElem?_eq_getElem hjn]; rfl
                have hty : (colsS tn)[j].ty = tyc j := colsS_ty tn j hjn (by omega)
                repeat first | refine nx ?_ | refine sq fun _ _ => ?_ | refine rg (sg ?_) | refine bl ?_ | refine sk (sg ?_) | refine xt (sg ?_) | refine lx (g := sg ?_) | refine ct (hx := ?_) | refine cf (hy := ?_) | refine lr (g := sg ?_) | refine rt (sg ?_) | refine rt ?_ | refine sk ?_ | refine xt ?_ | refine f1 (g := sg ?_) | refine f2 (g := sg ?_) | refine f3 (g := sg ?_) | refine And.intro (by first | assumption | omega) ?_
                refine cl [0] (sg ?_)
                refine (c38 j _).mono ?_
                rintro r bx ⟨rfl, rfl⟩
                refine sg ?_
                refine ⟨Nat.le_of_eq hrl.symm, by omega, by simp only [maxLen]; omega, ?_⟩
                rw [List.take_of_length_le (show (List.map (fun x => lc (cCe x)) (rowS ((colsS tn).take j) (rowsS (colsS tn) i s0).2).1).length ≤ j by rw [List.length_map, hrl]; exact Nat.le_refl _)]
                repeat first | refine nx ?_ | refine sq fun _ _ => ?_ | refine rg (sg ?_) | refine bl ?_ | refine sk (sg ?_) | refine xt (sg ?_) | refine lx (g := sg ?_) | refine ct (hx := ?_) | refine cf (hy := ?_) | refine lr (g := sg ?_) | refine rt (sg ?_) | refine rt ?_ | refine sk ?_ | refine xt ?_ | refine f1 (g := sg ?_) | refine f2 (g := sg ?_) | refine f3 (g := sg ?_) | refine And.intro (by first | assumption | omega) ?_
                refine ln (tn + 1 - (j + 1)) [1, 2, 5] ?_ ?_
                · omega
                refine ⟨j + 1, rfl, by omega, ?_⟩
                simp only [hwj]
                refine sg ?_
                simp only [List.map_append, rows_map, rows1_map, ht, rowS_snoc, hty]
                rfl
              · have hjn : j = tn + 1 := by omega
                have htk : (colsS tn).take j = colsS tn := by rw [hjn, ← hcl]; exact List.take_length
                repeat first | refine nx ?_ | refine sq fun _ _ => ?_ | refine rg (sg ?_) | refine bl ?_ | refine sk (sg ?_) | refine xt (sg ?_) | refine lx (g := sg ?_) | refine ct (hx := ?_) | refine cf (hy := ?_) | refine lr (g := sg ?_) | refine rt (sg ?_) | refine rt ?_ | refine sk ?_ | refine xt ?_ | refine f1 (g := sg ?_) | refine f2 (g := sg ?_) | refine f3 (g := sg ?_) | refine And.intro (by first | assumption | omega) ?_
                refine ln (n - (i + 1)) [1, 2, 5] ?_ ?_
                · omega
                refine ⟨i + 1, rfl, by omega, _, _, ?_, .inr ⟨by omega, rfl, rfl⟩⟩
                simp only [hwi]
                refine sg ?_
                rw [htk] at hrl ⊢
                subst hi0
                have ev : (C.sl j 3 fun i => vw (List.map (fun x => lc (cCe x)) (rowS (colsS tn) (rowsS (colsS tn) 0 s0).2).1) i) = rowA 3 cCe (rowS (colsS tn) (rowsS (colsS tn) 0 s0).2).1 := by
                  rw [vw_lc]
                  unfold rowA
                  rw [hrl]
                rw [if_pos (Nat.le_of_eq hrl.symm), ev]
                rfl
          · skip
            repeat first | refine nx ?_ | refine sq fun _ _ => ?_ | refine rg (sg ?_) | refine bl ?_ | refine sk (sg ?_) | refine xt (sg ?_) | refine lx (g := sg ?_) | refine ct (hx := ?_) | refine cf (hy := ?_) | refine lr (g := sg ?_) | refine rt (sg ?_) | refine rt ?_ | refine sk ?_ | refine xt ?_ | refine f1 (g := sg ?_) | refine f2 (g := sg ?_) | refine f3 (g := sg ?_) | refine And.intro (by first | assumption | omega) ?_
            refine lp [0, 2, 4, 5, 6, 7, 8, 9] [1, 2, 3, 4] (fun k σ => ∃ j : Nat, k = tn + 1 - j ∧ j ≤ tn + 1 ∧ σ = ⟨92, 1, [(0, rA), (2, .one (.ptr 1 0)), (4, .int .i64 tn), (5, .one (.ptr 2 0)), (6, .int .i64 n), (7, .int .i64 i), (8, .one (.own 4 3 0 j)), (9, .int .i64 j)],
              [rB (rowS ((colsS tn).take j) (rowsS (colsS tn) i s0).2).2, .var zL 44, .var (oL 3 (nameS tn) (.own 3 1 0 i)) 44, .arr ((rowsS (colsS tn) i s0).1.map fun r => lc (cRow r)) 1 98, .arr ((rowS ((colsS tn).take j) (rowsS (colsS tn) i s0).2).1.map fun x => lc (cCe x)) 3 35]⟩) (tn + 1) ?_ ?_
            · refine ⟨0, by omega, by omega, ?_⟩
              refine sg ?_
              rfl
            · rintro k2 σ2 ⟨j, hk2, hj, rfl⟩ Q2 hQ2
              simp only [oL, zL, List.drop_succ_cons, List.drop_zero]
              have hrl : (rowS ((colsS tn).take j) (rowsS (colsS tn) i s0).2).1.length = j := by rw [rowS_len, List.length_take]; omega
              repeat first | refine nx ?_ | refine sq fun _ _ => ?_ | refine rg (sg ?_) | refine bl ?_ | refine sk (sg ?_) | refine xt (sg ?_) | refine lx (g := sg ?_) | refine ct (hx := ?_) | refine cf (hy := ?_) | refine lr (g := sg ?_) | refine rt (sg ?_) | refine rt ?_ | refine sk ?_ | refine xt ?_ | refine f1 (g := sg ?_) | refine f2 (g := sg ?_) | refine f3 (g := sg ?_) | refine And.intro (by first | assumption | omega) ?_
              refine cb (fun h2 => ?_) (fun h2 => ?_)
              · have hjn : j < (colsS tn).length := by omega
                have hwj : IntKind.i64.wrap ((j : Int) + 1) = ((j + 1 : Nat) : Int) := by rw [IntKind.wrap_i64]; omega
                have ht : (colsS tn).take (j + 1) = (colsS tn).take j ++ [(colsS tn)[j]] := by rw [List.take_add_one, List.getElem?_eq_getElem hjn]; rfl
                have hty : (colsS tn)[j].ty = tyc j := colsS_ty tn j hjn (by omega)
                repeat first | refine nx ?_ | refine sq fun _ _ => ?_ | refine rg (sg ?_) | refine bl ?_ | refine sk (sg ?_) | refine xt (sg ?_) | refine lx (g := sg ?_) | refine ct (hx := ?_) | refine cf (hy := ?_) | refine lr (g := sg ?_) | refine rt (sg ?_) | refine rt ?_ | refine sk ?_ | refine xt ?_ | refine f1 (g := sg ?_) | refine f2 (g := sg ?_) | refine f3 (g := sg ?_) | refine And.intro (by first | assumption | omega) ?_
                refine cl [0] (sg ?_)
                refine (c38 j _).mono ?_
                rintro r bx ⟨rfl, rfl⟩
                refine sg ?_
                refine ⟨Nat.le_of_eq hrl.symm, by omega, by simp only [maxLen]; omega, ?_⟩
                rw [List.take_of_length_le (show (List.map (fun x => lc (cCe x)) (rowS ((colsS tn).take j) (rowsS (colsS tn) i s0).2).1).length ≤ j by rw [List.length_map, hrl]; exact Nat.le_refl _)]
                repeat first | refine nx ?_ | refine sq fun _ _ => ?_ | refine rg (sg ?_) | refine bl ?_ | refine sk (sg ?_) | refine xt (sg ?_) | refine lx (g := sg ?_) | refine ct (hx := ?_) | refine cf (hy := ?_) | refine lr (g := sg ?_) | refine rt (sg ?_) | refine rt ?_ | refine sk ?_ | refine xt ?_ | refine f1 (g := sg ?_) | refine f2 (g := sg ?_) | refine f3 (g := sg ?_) | refine And.intro (by first | assumption | omega) ?_
                refine ln (tn + 1 - (j + 1)) [1, 2, 3, 6] ?_ ?_
                · omega
                refine ⟨j + 1, rfl, by omega, ?_⟩
                simp only [hwj]
                refine sg ?_
                simp only [List.map_append, rows_map, rows1_map, ht, rowS_snoc, hty]
                rfl
              · have hjn : j = tn + 1 := by omega
                have htk : (colsS tn).take j = colsS tn := by rw [hjn, ← hcl]; exact List.take_length
                repeat first | refine nx ?_ | refine sq fun _ _ => ?_ | refine rg (sg ?_) | refine bl ?_ | refine sk (sg ?_) | refine xt (sg ?_) | refine lx (g := sg ?_) | refine ct (hx := ?_) | refine cf (hy := ?_) | refine lr (g := sg ?_) | refine rt (sg ?_) | refine rt ?_ | refine sk ?_ | refine xt ?_ | refine f1 (g := sg ?_) | refine f2 (g := sg ?_) | refine f3 (g := sg ?_) | refine And.intro (by first | assumption | omega) ?_
                refine ⟨Nat.le_of_eq (rowsS_len _ _ _).symm, by omega, by simp only [maxLen]; omega, ?_⟩
                rw [List.take_of_length_le (show (List.map (fun r => lc (cRow r)) (rowsS (colsS tn) i s0).1).length ≤ i by rw [List.length_map, rowsS_len]; exact Nat.le_refl _)]
                repeat first | refine nx ?_ | refine sq fun _ _ => ?_ | refine rg (sg ?_) | refine bl ?_ | refine sk (sg ?_) | refine xt (sg ?_) | refine lx (g := sg ?_) | refine ct (hx := ?_) | refine cf (hy := ?_) | refine lr (g := sg ?_) | refine rt (sg ?_) | refine rt ?_ | refine sk ?_ | refine xt ?_ | refine f1 (g := sg ?_) | refine f2 (g := sg ?_) | refine f3 (g := sg ?_) | refine And.intro (by first | assumption | omega) ?_
                refine ln (n - (i + 1)) [1, 2, 6] ?_ ?_
                · omega
                refine ⟨i + 1, rfl, by omega, _, _, ?_, .inr ⟨by omega, rfl, rfl⟩⟩
                simp only [hwi]
                refine sg ?_
                rw [htk] at hrl ⊢
                have ev : (C.sl j 3 fun z => vw (List.map (fun x => lc (cCe x)) (rowS (colsS tn) (rowsS (colsS tn) i s0).2).1) z) = rowA 3 cCe (rowS (colsS tn) (rowsS (colsS tn) i s0).2).1 := by
                  rw [vw_lc]
                  unfold rowA
                  rw [hrl]
                rw [List.map_append, rows1_map]
                refine sg ?_
                rw [if_pos (Nat.le_of_eq hrl.symm), ev]
                simp only [rowsS, List.map_append, List.map_cons, List.map_nil]
                rfl
        · have hin : i = n := by omega
          subst hin
          rcases hX with ⟨hi0, rfl, rfl⟩ | ⟨hi0, rfl, rfl⟩
          · omega
          repeat first | refine nx ?_ | refine sq fun _ _ => ?_ | refine rg (sg ?_) | refine bl ?_ | refine sk (sg ?_) | refine xt (sg ?_) | refine lx (g := sg ?_) | refine ct (hx := ?_) | refine cf (hy := ?_) | refine lr (g := sg ?_) | refine rt (sg ?_) | refine rt ?_ | refine sk ?_ | refine xt ?_ | refine f1 (g := sg ?_) | refine f2 (g := sg ?_) | refine f3 (g := sg ?_) | refine And.intro (by first | assumption | omega) ?_
          refine aw [] (.agg (lc (cOp ⟨3, nameS (tn : Int), [], (rowsS (colsS tn) i s0).1, pr0, qu0⟩))) [rB (rowsS (colsS tn) i s0).2] ?_ (leBs.refl _) ⟨rfl, rfl⟩
          simp only [cOp, cQu, pr0, qu0, cPr, lc, List.map_cons, List.map_nil, List.length_nil, List.cons_append, List.nil_append]
          refine .agg ?_
          refine leLs.cons (.refl _) (leLs.cons (.refl _) (leLs.cons (.c _ _ (.nil _ _)) (leLs.cons (sg ?_) ?_)))
          · rw [if_pos (Nat.le_of_eq (rowsS_len _ _ _).symm)]
            show leL (.c (.sl i 1 (vw ((rowsS (colsS tn) i s0).1.map fun x => lc (cRow x))))) _
            rw [vw_lc]
            unfold rowA
            rw [rowsS_len]
            exact .refl _
          repeat first | exact leLs.nil | refine leLs.cons (by first | exact .refl _ | exact .c _ _ (.nil _ _)) ?_
    · repeat first | refine nx ?_ | refine sq fun _ _ => ?_ | refine rg (sg ?_) | refine bl ?_ | refine sk (sg ?_) | refine xt (sg ?_) | refine lx (g := sg ?_) | refine ct (hx := ?_) | refine cf (hy := ?_) | refine lr (g := sg ?_) | refine rt (sg ?_) | refine rt ?_ | refine sk ?_ | refine xt ?_ | refine f1 (g := sg ?_) | refine f2 (g := sg ?_) | refine f3 (g := sg ?_) | refine And.intro (by first | assumption | omega) ?_
      refine cb (fun h2 => ?_) (fun h2 => ?_)
      · repeat first | refine nx ?_ | refine sq fun _ _ => ?_ | refine rg (sg ?_) | refine bl ?_ | refine sk (sg ?_) | refine xt (sg ?_) | refine lx (g := sg ?_) | refine ct (hx := ?_) | refine cf (hy := ?_) | refine lr (g := sg ?_) | refine rt (sg ?_) | refine rt ?_ | refine sk ?_ | refine xt ?_ | refine f1 (g := sg ?_) | refine f2 (g := sg ?_) | refine f3 (g := sg ?_) | refine And.intro (by first | assumption | omega) ?_
        refine cl [0] (sg ?_)
        refine (c39 3 _).mono ?_
        rintro r bx ⟨rfl, rfl⟩
        simp only [whereS, cPr, lc]
        refine sg ?_
        repeat first | refine nx ?_ | refine sq fun _ _ => ?_ | refine rg (sg ?_) | refine bl ?_ | refine sk (sg ?_) | refine xt (sg ?_) | refine lx (g := sg ?_) | refine ct (hx := ?_) | refine cf (hy := ?_) | refine lr (g := sg ?_) | refine rt (sg ?_) | refine rt ?_ | refine sk ?_ | refine xt ?_ | refine f1 (g := sg ?_) | refine f2 (g := sg ?_) | refine f3 (g := sg ?_) | refine And.intro (by first | assumption | omega) ?_
        have e : oneS a = (⟨4, nameS (drw 3 (nxt a)), [], [], (whereS 3 (nxt (nxt a))).1, qu0⟩, (whereS 3 (nxt (nxt a))).2) := by
          unfold oneS
          rw [if_neg (show ¬ drw 12 a = 0 by omega), if_neg (show ¬ drw 12 a < 5 by omega), if_pos (show drw 12 a = 5 by omega)]
        rw [e]
        refine aw [] (.agg (lc (cOp ⟨4, nameS (drw 3 (nxt a)), [], [], (whereS 3 (nxt (nxt a))).1, qu0⟩))) [rB (whereS 3 (nxt (nxt a))).2] ?_ (leBs.refl _) ⟨rfl, rfl⟩
        simp only [cOp, cQu, whereS, pr0, qu0, cPr, lc, List.map_cons, List.map_nil, List.map_append, List.length_nil, List.cons_append, List.nil_append]
        refine .agg ?_
        repeat first | exact leLs.nil | refine leLs.cons (by first | exact .refl _ | exact .c _ _ (.nil _ _) | exact .c _ _ (row_le fun i hi j hj => by rcases i with _ | _ | _ | i <;> rcases j with _ | _ | _ | j <;> first | rfl | omega)) ?_
      · repeat first | refine nx ?_ | refine sq fun _ _ => ?_ | refine rg (sg ?_) | refine bl ?_ | refine sk (sg ?_) | refine xt (sg ?_) | refine lx (g := sg ?_) | refine ct (hx := ?_) | refine cf (hy := ?_) | refine lr (g := sg ?_) | refine rt (sg ?_) | refine rt ?_ | refine sk ?_ | refine xt ?_ | refine f1 (g := sg ?_) | refine f2 (g := sg ?_) | refine f3 (g := sg ?_) | refine And.intro (by first | assumption | omega) ?_
        refine cb (fun h3 => ?_) (fun h3 => ?_)
        · repeat first | refine nx ?_ | refine sq fun _ _ => ?_ | refine rg (sg ?_) | refine bl ?_ | refine sk (sg ?_) | refine xt (sg ?_) | refine lx (g := sg ?_) | refine ct (hx := ?_) | refine cf (hy := ?_) | refine lr (g := sg ?_) | refine rt (sg ?_) | refine rt ?_ | refine sk ?_ | refine xt ?_ | refine f1 (g := sg ?_) | refine f2 (g := sg ?_) | refine f3 (g := sg ?_) | refine And.intro (by first | assumption | omega) ?_
          refine dr [.take 0, .take 1, .take 2, .one 3, .pure 4, .take 5, .last 6] [0] (sg ?_)
          refine cl [0] (sg ?_)
          refine (c39 6 _).mono ?_
          rintro r bx ⟨rfl, rfl⟩
          simp only [whereS, cPr, lc]
          refine sg ?_
          repeat first | refine nx ?_ | refine sq fun _ _ => ?_ | refine rg (sg ?_) | refine bl ?_ | refine sk (sg ?_) | refine xt (sg ?_) | refine lx (g := sg ?_) | refine ct (hx := ?_) | refine cf (hy := ?_) | refine lr (g := sg ?_) | refine rt (sg ?_) | refine rt ?_ | refine sk ?_ | refine xt ?_ | refine f1 (g := sg ?_) | refine f2 (g := sg ?_) | refine f3 (g := sg ?_) | refine And.intro (by first | assumption | omega) ?_
          refine cl [0] (sg ?_)
          refine (c37 2 _ (by omega) (by omega)).mono ?_
          rintro r bx ⟨rfl, rfl⟩
          refine sg ?_
          repeat first | refine nx ?_ | refine sq fun _ _ => ?_ | refine rg (sg ?_) | refine bl ?_ | refine sk (sg ?_) | refine xt (sg ?_) | refine lx (g := sg ?_) | refine ct (hx := ?_) | refine cf (hy := ?_) | refine lr (g := sg ?_) | refine rt (sg ?_) | refine rt ?_ | refine sk ?_ | refine xt ?_ | refine f1 (g := sg ?_) | refine f2 (g := sg ?_) | refine f3 (g := sg ?_) | refine And.intro (by first | assumption | omega) ?_
          refine cb (fun h6 => ?_) (fun h6 => ?_)
          · repeat first | refine nx ?_ | refine sq fun _ _ => ?_ | refine rg (sg ?_) | refine bl ?_ | refine sk (sg ?_) | refine xt (sg ?_) | refine lx (g := sg ?_) | refine ct (hx := ?_) | refine cf (hy := ?_) | refine lr (g := sg ?_) | refine rt (sg ?_) | refine rt ?_ | refine sk ?_ | refine xt ?_ | refine f1 (g := sg ?_) | refine f2 (g := sg ?_) | refine f3 (g := sg ?_) | refine And.intro (by first | assumption | omega) ?_
            have e : oneS a = (⟨9, ⟨#[]⟩, [], [], pr0, ⟨nameS (drw 3 (nxt a)), [], (whereS 6 (nxt (nxt a))).1, aggs2, ⟨#[]⟩⟩⟩, (nxt (whereS 6 (nxt (nxt a))).2)) := by
              unfold oneS
              rw [if_neg (show ¬ drw 12 a = 0 by omega), if_neg (show ¬ drw 12 a < 5 by omega), if_neg (show ¬ drw 12 a = 5 by omega), if_pos (show drw 12 a < 9 by omega)]
              show (Opn.mk _ _ _ _ _ (Qu.mk _ _ _ (if drw 2 (numS _).2 = 1 then _ else _) _), _) = _
              rw [if_pos h6]
            rw [e]
            refine aw [] (.agg (lc (cOp ⟨9, ⟨#[]⟩, [], [], pr0, ⟨nameS (drw 3 (nxt a)), [], (whereS 6 (nxt (nxt a))).1, aggs2, ⟨#[]⟩⟩⟩))) [rB (nxt (whereS 6 (nxt (nxt a))).2)] ?_ (leBs.refl _) ⟨rfl, rfl⟩
            simp only [cOp, cQu, whereS, pr0, qu0, cPr, lc, List.map_cons, List.map_nil, List.map_append, List.length_nil, List.cons_append, List.nil_append]
            refine .agg ?_
            repeat first | exact leLs.nil | refine leLs.cons (by first | exact .refl _ | exact .c _ _ (.nil _ _) | exact .c _ _ (row_le fun i hi j hj => by rcases i with _ | _ | _ | i <;> rcases j with _ | _ | _ | j <;> first | rfl | omega)) ?_
          · repeat first | refine nx ?_ | refine sq fun _ _ => ?_ | refine rg (sg ?_) | refine bl ?_ | refine sk (sg ?_) | refine xt (sg ?_) | refine lx (g := sg ?_) | refine ct (hx := ?_) | refine cf (hy := ?_) | refine lr (g := sg ?_) | refine rt (sg ?_) | refine rt ?_ | refine sk ?_ | refine xt ?_ | refine f1 (g := sg ?_) | refine f2 (g := sg ?_) | refine f3 (g := sg ?_) | refine And.intro (by first | assumption | omega) ?_
            have e : oneS a = (⟨9, ⟨#[]⟩, [], [], pr0, ⟨nameS (drw 3 (nxt a)), [], (whereS 6 (nxt (nxt a))).1, [], ⟨#[]⟩⟩⟩, (nxt (whereS 6 (nxt (nxt a))).2)) := by
              unfold oneS
              rw [if_neg (show ¬ drw 12 a = 0 by omega), if_neg (show ¬ drw 12 a < 5 by omega), if_neg (show ¬ drw 12 a = 5 by omega), if_pos (show drw 12 a < 9 by omega)]
              show (Opn.mk _ _ _ _ _ (Qu.mk _ _ _ (if drw 2 (numS _).2 = 1 then _ else _) _), _) = _
              rw [if_neg h6]
            rw [e]
            refine aw [] (.agg (lc (cOp ⟨9, ⟨#[]⟩, [], [], pr0, ⟨nameS (drw 3 (nxt a)), [], (whereS 6 (nxt (nxt a))).1, [], ⟨#[]⟩⟩⟩))) [rB (nxt (whereS 6 (nxt (nxt a))).2)] ?_ (leBs.refl _) ⟨rfl, rfl⟩
            simp only [cOp, cQu, whereS, pr0, qu0, cPr, lc, List.map_cons, List.map_nil, List.map_append, List.length_nil, List.cons_append, List.nil_append]
            refine .agg ?_
            repeat first | exact leLs.nil | refine leLs.cons (by first | exact .refl _ | exact .c _ _ (.nil _ _) | exact .c _ _ (row_le fun i hi j hj => by rcases i with _ | _ | _ | i <;> rcases j with _ | _ | _ | j <;> first | rfl | omega)) ?_
        · repeat first | refine nx ?_ | refine sq fun _ _ => ?_ | refine rg (sg ?_) | refine bl ?_ | refine sk (sg ?_) | refine xt (sg ?_) | refine lx (g := sg ?_) | refine ct (hx := ?_) | refine cf (hy := ?_) | refine lr (g := sg ?_) | refine rt (sg ?_) | refine rt ?_ | refine sk ?_ | refine xt ?_ | refine f1 (g := sg ?_) | refine f2 (g := sg ?_) | refine f3 (g := sg ?_) | refine And.intro (by first | assumption | omega) ?_
          refine cb (fun h4 => ?_) (fun h4 => ?_)
          · repeat first | refine nx ?_ | refine sq fun _ _ => ?_ | refine rg (sg ?_) | refine bl ?_ | refine sk (sg ?_) | refine xt (sg ?_) | refine lx (g := sg ?_) | refine ct (hx := ?_) | refine cf (hy := ?_) | refine lr (g := sg ?_) | refine rt (sg ?_) | refine rt ?_ | refine sk ?_ | refine xt ?_ | refine f1 (g := sg ?_) | refine f2 (g := sg ?_) | refine f3 (g := sg ?_) | refine And.intro (by first | assumption | omega) ?_
            have e : oneS a = (⟨5, nameS (drw 3 (nxt a)), [], [], pr0, qu0⟩, (nxt (nxt a))) := by
              unfold oneS
              rw [if_neg (show ¬ drw 12 a = 0 by omega), if_neg (show ¬ drw 12 a < 5 by omega), if_neg (show ¬ drw 12 a = 5 by omega), if_neg (show ¬ drw 12 a < 9 by omega), if_pos (show drw 12 a = 9 by omega)]
            rw [e]
            refine aw [] (.agg (lc (cOp ⟨5, nameS (drw 3 (nxt a)), [], [], pr0, qu0⟩))) [rB (nxt (nxt a))] ?_ (leBs.refl _) ⟨rfl, rfl⟩
            simp only [cOp, cQu, whereS, pr0, qu0, cPr, lc, List.map_cons, List.map_nil, List.map_append, List.length_nil, List.cons_append, List.nil_append]
            refine .agg ?_
            repeat first | exact leLs.nil | refine leLs.cons (by first | exact .refl _ | exact .c _ _ (.nil _ _) | exact .c _ _ (row_le fun i hi j hj => by rcases i with _ | _ | _ | i <;> rcases j with _ | _ | _ | j <;> first | rfl | omega)) ?_
          · repeat first | refine nx ?_ | refine sq fun _ _ => ?_ | refine rg (sg ?_) | refine bl ?_ | refine sk (sg ?_) | refine xt (sg ?_) | refine lx (g := sg ?_) | refine ct (hx := ?_) | refine cf (hy := ?_) | refine lr (g := sg ?_) | refine rt (sg ?_) | refine rt ?_ | refine sk ?_ | refine xt ?_ | refine f1 (g := sg ?_) | refine f2 (g := sg ?_) | refine f3 (g := sg ?_) | refine And.intro (by first | assumption | omega) ?_
            refine cb (fun h5 => ?_) (fun h5 => ?_)
            · repeat first | refine nx ?_ | refine sq fun _ _ => ?_ | refine rg (sg ?_) | refine bl ?_ | refine sk (sg ?_) | refine xt (sg ?_) | refine lx (g := sg ?_) | refine ct (hx := ?_) | refine cf (hy := ?_) | refine lr (g := sg ?_) | refine rt (sg ?_) | refine rt ?_ | refine sk ?_ | refine xt ?_ | refine f1 (g := sg ?_) | refine f2 (g := sg ?_) | refine f3 (g := sg ?_) | refine And.intro (by first | assumption | omega) ?_
              have e : oneS a = (⟨6, ⟨#[]⟩, [], [], pr0, qu0⟩, (nxt (nxt a))) := by
                unfold oneS
                rw [if_neg (show ¬ drw 12 a = 0 by omega), if_neg (show ¬ drw 12 a < 5 by omega), if_neg (show ¬ drw 12 a = 5 by omega), if_neg (show ¬ drw 12 a < 9 by omega), if_neg (show ¬ drw 12 a = 9 by omega), if_pos (show drw 12 a = 10 by omega)]
              rw [e]
              refine aw [] (.agg (lc (cOp ⟨6, ⟨#[]⟩, [], [], pr0, qu0⟩))) [rB (nxt (nxt a))] ?_ (leBs.refl _) ⟨rfl, rfl⟩
              simp only [cOp, cQu, whereS, pr0, qu0, cPr, lc, List.map_cons, List.map_nil, List.map_append, List.length_nil, List.cons_append, List.nil_append]
              refine .agg ?_
              repeat first | exact leLs.nil | refine leLs.cons (by first | exact .refl _ | exact .c _ _ (.nil _ _) | exact .c _ _ (row_le fun i hi j hj => by rcases i with _ | _ | _ | i <;> rcases j with _ | _ | _ | j <;> first | rfl | omega)) ?_
            · repeat first | refine nx ?_ | refine sq fun _ _ => ?_ | refine rg (sg ?_) | refine bl ?_ | refine sk (sg ?_) | refine xt (sg ?_) | refine lx (g := sg ?_) | refine ct (hx := ?_) | refine cf (hy := ?_) | refine lr (g := sg ?_) | refine rt (sg ?_) | refine rt ?_ | refine sk ?_ | refine xt ?_ | refine f1 (g := sg ?_) | refine f2 (g := sg ?_) | refine f3 (g := sg ?_) | refine And.intro (by first | assumption | omega) ?_
              have e : oneS a = (⟨8, nameS (drw 3 (nxt a)), [], [], pr0, qu0⟩, (nxt (nxt a))) := by
                unfold oneS
                rw [if_neg (show ¬ drw 12 a = 0 by omega), if_neg (show ¬ drw 12 a < 5 by omega), if_neg (show ¬ drw 12 a = 5 by omega), if_neg (show ¬ drw 12 a < 9 by omega), if_neg (show ¬ drw 12 a = 9 by omega), if_neg (show ¬ drw 12 a = 10 by omega)]
              rw [e]
              refine aw [] (.agg (lc (cOp ⟨8, nameS (drw 3 (nxt a)), [], [], pr0, qu0⟩))) [rB (nxt (nxt a))] ?_ (leBs.refl _) ⟨rfl, rfl⟩
              simp only [cOp, cQu, whereS, pr0, qu0, cPr, lc, List.map_cons, List.map_nil, List.map_append, List.length_nil, List.cons_append, List.nil_append]
              refine .agg ?_
              repeat first | exact leLs.nil | refine leLs.cons (by first | exact .refl _ | exact .c _ _ (.nil _ _) | exact .c _ _ (row_le fun i hi j hj => by rcases i with _ | _ | _ | i <;> rcases j with _ | _ | _ | j <;> first | rfl | omega)) ?_
end Go.Proofs.YtdedmhmomoejkaaDoor.V
