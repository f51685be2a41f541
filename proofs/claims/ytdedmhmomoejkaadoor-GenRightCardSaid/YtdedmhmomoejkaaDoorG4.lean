import Derived.Test.YtdedmhmomoejkaaDoorG3
namespace Go.Proofs.YtdedmhmomoejkaaDoor.V
open Go Go.RowKit Go.Proofs.YtdedmhmomoejkaaDoorW.PrintLast
open Go.Proofs
set_option linter.unusedVariables false
set_option linter.unusedSimpArgs false
attribute [local irreducible] awp
--IMP G3
set_option maxRecDepth 100000
theorem c76 (cmp a : Int) : PC Tryd.prog 76 [dA, .int .i64 cmp] [dB a] (fun r bx => r = .agg (lc (cPr (whereS cmp a).1)) ∧ bx = [dB (whereS cmp a).2]) := by
  refine enter (rs := [.cell 4 38]) mx Tryd.func76 Tryd.ntmps76 fun Q0 hQ0 => ?_
  repeat first | refine nx ?_ | refine sq fun _ _ => ?_ | refine rg (sg ?_) | refine bl ?_ | refine sk (sg ?_) | refine xt (sg ?_) | refine lx (g := sg ?_) | refine ct (hx := ?_) | refine cf (hy := ?_) | refine lr (g := sg ?_) | refine rt (sg ?_) | refine rt ?_ | refine sk ?_ | refine xt ?_ | refine f1 (g := sg ?_) | refine f2 (g := sg ?_) | refine f3 (g := sg ?_) | refine And.intro (by first | assumption | omega) ?_
  refine cl [0] (sg ?_)
  refine (c121 a).mono ?_
  rintro r bx ⟨rfl, rfl⟩
  refine sg ?_
  repeat first | refine nx ?_ | refine sq fun _ _ => ?_ | refine rg (sg ?_) | refine bl ?_ | refine sk (sg ?_) | refine xt (sg ?_) | refine lx (g := sg ?_) | refine ct (hx := ?_) | refine cf (hy := ?_) | refine lr (g := sg ?_) | refine rt (sg ?_) | refine rt ?_ | refine sk ?_ | refine xt ?_ | refine f1 (g := sg ?_) | refine f2 (g := sg ?_) | refine f3 (g := sg ?_) | refine And.intro (by first | assumption | omega) ?_
  refine aw [] (.agg (lc (cPr (whereS cmp a).1))) [dB (whereS cmp a).2] ?_ (leBs.refl _) ⟨rfl, rfl⟩
  simp only [whereS, cPr, lc, List.map_cons, List.map_nil, List.length_nil]
  refine .agg ?_
  repeat first | exact leLs.nil | refine leLs.cons (by first | exact .refl _ | exact .c _ _ (.nil _ _)) ?_
theorem c77 (name : ByteArray) (a : Int) : PC Tryd.prog 77 [dA, .str name] [dB a] (fun r bx => r = .agg (lc (cOp (scanS name a).1)) ∧ bx = [dB (scanS name a).2]) := by
  refine enter (rs := [.cell 4 44]) mx Tryd.func77 Tryd.ntmps77 fun Q0 hQ0 => ?_
  repeat first | refine nx ?_ | refine sq fun _ _ => ?_ | refine rg (sg ?_) | refine bl ?_ | refine sk (sg ?_) | refine xt (sg ?_) | refine lx (g := sg ?_) | refine ct (hx := ?_) | refine cf (hy := ?_) | refine lr (g := sg ?_) | refine rt (sg ?_) | refine rt ?_ | refine sk ?_ | refine xt ?_ | refine f1 (g := sg ?_) | refine f2 (g := sg ?_) | refine f3 (g := sg ?_) | refine And.intro (by first | assumption | omega) ?_
  refine cl [0] (sg ?_)
  refine (c76 6 a).mono ?_
  rintro r bx ⟨rfl, rfl⟩
  simp only [whereS, cPr, lc]
  refine sg ?_
  repeat first | refine nx ?_ | refine sq fun _ _ => ?_ | refine rg (sg ?_) | refine bl ?_ | refine sk (sg ?_) | refine xt (sg ?_) | refine lx (g := sg ?_) | refine ct (hx := ?_) | refine cf (hy := ?_) | refine lr (g := sg ?_) | refine rt (sg ?_) | refine rt ?_ | refine sk ?_ | refine xt ?_ | refine f1 (g := sg ?_) | refine f2 (g := sg ?_) | refine f3 (g := sg ?_) | refine And.intro (by first | assumption | omega) ?_
  refine cl [0] (sg ?_)
  refine (c73 2 _ (by omega) (by omega)).mono ?_
  rintro r bx ⟨rfl, rfl⟩
  refine sg ?_
  repeat first | refine nx ?_ | refine sq fun _ _ => ?_ | refine rg (sg ?_) | refine bl ?_ | refine sk (sg ?_) | refine xt (sg ?_) | refine lx (g := sg ?_) | refine ct (hx := ?_) | refine cf (hy := ?_) | refine lr (g := sg ?_) | refine rt (sg ?_) | refine rt ?_ | refine sk ?_ | refine xt ?_ | refine f1 (g := sg ?_) | refine f2 (g := sg ?_) | refine f3 (g := sg ?_) | refine And.intro (by first | assumption | omega) ?_
  refine cb (fun h => ?_) (fun h => ?_)
  · repeat first | refine nx ?_ | refine sq fun _ _ => ?_ | refine rg (sg ?_) | refine bl ?_ | refine sk (sg ?_) | refine xt (sg ?_) | refine lx (g := sg ?_) | refine ct (hx := ?_) | refine cf (hy := ?_) | refine lr (g := sg ?_) | refine rt (sg ?_) | refine rt ?_ | refine sk ?_ | refine xt ?_ | refine f1 (g := sg ?_) | refine f2 (g := sg ?_) | refine f3 (g := sg ?_) | refine And.intro (by first | assumption | omega) ?_
    refine aw [] (.agg (lc (cOp (scanS name a).1))) [dB (scanS name a).2] ?_ (leBs.refl _) ⟨rfl, rfl⟩
    have e : (scanS name a).1 = ⟨9, ⟨#[]⟩, [], [], pr0, ⟨name, [], (whereS 6 a).1, aggs2, ⟨#[]⟩⟩⟩ := by
      show Opn.mk _ _ _ _ _ (Qu.mk _ _ _ (if drw 2 (numS a).2 = 1 then _ else _) _) = _
      rw [if_pos h]
    rw [e]
    simp only [cOp, cQu, whereS, pr0, cPr, lc, List.map_cons, List.map_nil, List.map_append, List.length_nil, List.cons_append, List.nil_append]
    refine .agg ?_
    repeat first | exact leLs.nil | refine leLs.cons (by first | exact .refl _ | exact .c _ _ (.nil _ _) | exact .c _ _ (row_le fun i hi j hj => by rcases i with _ | _ | _ | i <;> rcases j with _ | _ | _ | j <;> first | rfl | omega)) ?_
  · repeat first | refine nx ?_ | refine sq fun _ _ => ?_ | refine rg (sg ?_) | refine bl ?_ | refine sk (sg ?_) | refine xt (sg ?_) | refine lx (g := sg ?_) | refine ct (hx := ?_) | refine cf (hy := ?_) | refine lr (g := sg ?_) | refine rt (sg ?_) | refine rt ?_ | refine sk ?_ | refine xt ?_ | refine f1 (g := sg ?_) | refine f2 (g := sg ?_) | refine f3 (g := sg ?_) | refine And.intro (by first | assumption | omega) ?_
    refine aw [] (.agg (lc (cOp (scanS name a).1))) [dB (scanS name a).2] ?_ (leBs.refl _) ⟨rfl, rfl⟩
    have e : (scanS name a).1 = ⟨9, ⟨#[]⟩, [], [], pr0, ⟨name, [], (whereS 6 a).1, [], ⟨#[]⟩⟩⟩ := by
      show Opn.mk _ _ _ _ _ (Qu.mk _ _ _ (if drw 2 (numS a).2 = 1 then _ else _) _) = _
      rw [if_neg h]
    rw [e]
    simp only [cOp, cQu, whereS, pr0, cPr, lc, List.map_cons, List.map_nil, List.map_append, List.length_nil, List.cons_append, List.nil_append]
    refine .agg ?_
    repeat first | exact leLs.nil | refine leLs.cons (by first | exact .refl _ | exact .c _ _ (.nil _ _) | exact .c _ _ (row_le fun i hi j hj => by rcases i with _ | _ | _ | i <;> rcases j with _ | _ | _ | j <;> first | rfl | omega)) ?_
theorem abc_size (k : Int) : (abc k).size ≤ 100 := by unfold abc; split <;> (try split) <;> decide
theorem c120 (x : Co) (a : Int) : PC Tryd.prog 120 [dA, aCo x] [dB a] (fun r bx => r = aCe (cellS x.ty a).1 ∧ bx = [dB (cellS x.ty a).2]) := by
  refine enter (rs := [.cell 4 35]) mx Tryd.func120 Tryd.ntmps120 fun Q0 hQ0 => ?_
  repeat first | refine nx ?_ | refine sq fun _ _ => ?_ | refine rg (sg ?_) | refine bl ?_ | refine sk (sg ?_) | refine xt (sg ?_) | refine lx (g := sg ?_) | refine ct (hx := ?_) | refine cf (hy := ?_) | refine lr (g := sg ?_) | refine rt (sg ?_) | refine rt ?_ | refine sk ?_ | refine xt ?_ | refine f1 (g := sg ?_) | refine f2 (g := sg ?_) | refine f3 (g := sg ?_) | refine And.intro (by first | assumption | omega) ?_
  refine cb (fun h => ?_) (fun h => ?_)
  · repeat first | refine nx ?_ | refine sq fun _ _ => ?_ | refine rg (sg ?_) | refine bl ?_ | refine sk (sg ?_) | refine xt (sg ?_) | refine lx (g := sg ?_) | refine ct (hx := ?_) | refine cf (hy := ?_) | refine lr (g := sg ?_) | refine rt (sg ?_) | refine rt ?_ | refine sk ?_ | refine xt ?_ | refine f1 (g := sg ?_) | refine f2 (g := sg ?_) | refine f3 (g := sg ?_) | refine And.intro (by first | assumption | omega) ?_
    refine cl [0] (sg ?_)
    refine (c121 a).mono ?_
    rintro r bx ⟨rfl, rfl⟩
    refine sg ?_
    repeat first | refine nx ?_ | refine sq fun _ _ => ?_ | refine rg (sg ?_) | refine bl ?_ | refine sk (sg ?_) | refine xt (sg ?_) | refine lx (g := sg ?_) | refine ct (hx := ?_) | refine cf (hy := ?_) | refine lr (g := sg ?_) | refine rt (sg ?_) | refine rt ?_ | refine sk ?_ | refine xt ?_ | refine f1 (g := sg ?_) | refine f2 (g := sg ?_) | refine f3 (g := sg ?_) | refine And.intro (by first | assumption | omega) ?_
    unfold cellS
    rw [if_pos h]
    exact ax [] ⟨rfl, rfl⟩
  · repeat first | refine nx ?_ | refine sq fun _ _ => ?_ | refine rg (sg ?_) | refine bl ?_ | refine sk (sg ?_) | refine xt (sg ?_) | refine lx (g := sg ?_) | refine ct (hx := ?_) | refine cf (hy := ?_) | refine lr (g := sg ?_) | refine rt (sg ?_) | refine rt ?_ | refine sk ?_ | refine xt ?_ | refine f1 (g := sg ?_) | refine f2 (g := sg ?_) | refine f3 (g := sg ?_) | refine And.intro (by first | assumption | omega) ?_
    refine cb (fun h2 => ?_) (fun h2 => ?_)
    · repeat first | refine nx ?_ | refine sq fun _ _ => ?_ | refine rg (sg ?_) | refine bl ?_ | refine sk (sg ?_) | refine xt (sg ?_) | refine lx (g := sg ?_) | refine ct (hx := ?_) | refine cf (hy := ?_) | refine lr (g := sg ?_) | refine rt (sg ?_) | refine rt ?_ | refine sk ?_ | refine xt ?_ | refine f1 (g := sg ?_) | refine f2 (g := sg ?_) | refine f3 (g := sg ?_) | refine And.intro (by first | assumption | omega) ?_
      refine cl [0] (sg ?_)
      refine (c73 4 a (by omega) (by omega)).mono ?_
      rintro r bx ⟨rfl, rfl⟩
      refine sg ?_
      repeat first | refine nx ?_ | refine sq fun _ _ => ?_ | refine rg (sg ?_) | refine bl ?_ | refine sk (sg ?_) | refine xt (sg ?_) | refine lx (g := sg ?_) | refine ct (hx := ?_) | refine cf (hy := ?_) | refine lr (g := sg ?_) | refine rt (sg ?_) | refine rt ?_ | refine sk ?_ | refine xt ?_ | refine f1 (g := sg ?_) | refine f2 (g := sg ?_) | refine f3 (g := sg ?_) | refine And.intro (by first | assumption | omega) ?_
      have hd := drw_rng 4 a (by omega) (by omega)
      refine cb (fun h3 => ?_) (fun h3 => ?_)
      · repeat first | refine nx ?_ | refine sq fun _ _ => ?_ | refine rg (sg ?_) | refine bl ?_ | refine sk (sg ?_) | refine xt (sg ?_) | refine lx (g := sg ?_) | refine ct (hx := ?_) | refine cf (hy := ?_) | refine lr (g := sg ?_) | refine rt (sg ?_) | refine rt ?_ | refine sk ?_ | refine xt ?_ | refine f1 (g := sg ?_) | refine f2 (g := sg ?_) | refine f3 (g := sg ?_) | refine And.intro (by first | assumption | omega) ?_
        refine cl [0] (sg ?_)
        refine (c73 3 _ (by omega) (by omega)).mono ?_
        rintro r bx ⟨rfl, rfl⟩
        refine sg ?_
        have hk : drw 3 (nxt a) = 0 ∨ drw 3 (nxt a) = 1 ∨ drw 3 (nxt a) = 2 := by
          have := drw_rng 3 (nxt a) (by omega) (by omega)
          omega
        have e : cellS x.ty a = (⟨false, 0, repS (abc (drw 3 (nxt a))) (drw 4 a)⟩, nxt (nxt a)) := by
          unfold cellS
          rw [if_neg h, if_pos h2, if_pos h3]
        rcases hk with hk | hk | hk
        · rw [hk]
          refine sg ?_
          repeat first | refine nx ?_ | refine sq fun _ _ => ?_ | refine rg (sg ?_) | refine bl ?_ | refine sk (sg ?_) | refine xt (sg ?_) | refine lx (g := sg ?_) | refine ct (hx := ?_) | refine cf (hy := ?_) | refine lr (g := sg ?_) | refine rt (sg ?_) | refine rt ?_ | refine sk ?_ | refine xt ?_ | refine f1 (g := sg ?_) | refine f2 (g := sg ?_) | refine f3 (g := sg ?_) | refine And.intro (by first | assumption | omega) ?_
          refine cl [] (sg ?_)
          refine (c155 ⟨#[97]⟩ _ hd.1 (by omega) (by decide)).mono ?_
          rintro r bx ⟨rfl, rfl⟩
          refine sg ?_
          repeat first | refine nx ?_ | refine sq fun _ _ => ?_ | refine rg (sg ?_) | refine bl ?_ | refine sk (sg ?_) | refine xt (sg ?_) | refine lx (g := sg ?_) | refine ct (hx := ?_) | refine cf (hy := ?_) | refine lr (g := sg ?_) | refine rt (sg ?_) | refine rt ?_ | refine sk ?_ | refine xt ?_ | refine f1 (g := sg ?_) | refine f2 (g := sg ?_) | refine f3 (g := sg ?_) | refine And.intro (by first | assumption | omega) ?_
          refine ax [] ?_
          rw [e, hk]
          exact ⟨rfl, rfl⟩
        · rw [hk]
          refine sg ?_
          repeat first | refine nx ?_ | refine sq fun _ _ => ?_ | refine rg (sg ?_) | refine bl ?_ | refine sk (sg ?_) | refine xt (sg ?_) | refine lx (g := sg ?_) | refine ct (hx := ?_) | refine cf (hy := ?_) | refine lr (g := sg ?_) | refine rt (sg ?_) | refine rt ?_ | refine sk ?_ | refine xt ?_ | refine f1 (g := sg ?_) | refine f2 (g := sg ?_) | refine f3 (g := sg ?_) | refine And.intro (by first | assumption | omega) ?_
          refine cl [] (sg ?_)
          refine (c155 ⟨#[98]⟩ _ hd.1 (by omega) (by decide)).mono ?_
          rintro r bx ⟨rfl, rfl⟩
          refine sg ?_
          repeat first | refine nx ?_ | refine sq fun _ _ => ?_ | refine rg (sg ?_) | refine bl ?_ | refine sk (sg ?_) | refine xt (sg ?_) | refine lx (g := sg ?_) | refine ct (hx := ?_) | refine cf (hy := ?_) | refine lr (g := sg ?_) | refine rt (sg ?_) | refine rt ?_ | refine sk ?_ | refine xt ?_ | refine f1 (g := sg ?_) | refine f2 (g := sg ?_) | refine f3 (g := sg ?_) | refine And.intro (by first | assumption | omega) ?_
          refine ax [] ?_
          rw [e, hk]
          exact ⟨rfl, rfl⟩
        · rw [hk]
          refine sg ?_
          repeat first | refine nx ?_ | refine sq fun _ _ => ?_ | refine rg (sg ?_) | refine bl ?_ | refine sk (sg ?_) | refine xt (sg ?_) | refine lx (g := sg ?_) | refine ct (hx := ?_) | refine cf (hy := ?_) | refine lr (g := sg ?_) | refine rt (sg ?_) | refine rt ?_ | refine sk ?_ | refine xt ?_ | refine f1 (g := sg ?_) | refine f2 (g := sg ?_) | refine f3 (g := sg ?_) | refine And.intro (by first | assumption | omega) ?_
          refine cl [] (sg ?_)
          refine (c155 ⟨#[99]⟩ _ hd.1 (by omega) (by decide)).mono ?_
          rintro r bx ⟨rfl, rfl⟩
          refine sg ?_
          repeat first | refine nx ?_ | refine sq fun _ _ => ?_ | refine rg (sg ?_) | refine bl ?_ | refine sk (sg ?_) | refine xt (sg ?_) | refine lx (g := sg ?_) | refine ct (hx := ?_) | refine cf (hy := ?_) | refine lr (g := sg ?_) | refine rt (sg ?_) | refine rt ?_ | refine sk ?_ | refine xt ?_ | refine f1 (g := sg ?_) | refine f2 (g := sg ?_) | refine f3 (g := sg ?_) | refine And.intro (by first | assumption | omega) ?_
          refine ax [] ?_
          rw [e, hk]
          exact ⟨rfl, rfl⟩
      · repeat first | refine nx ?_ | refine sq fun _ _ => ?_ | refine rg (sg ?_) | refine bl ?_ | refine sk (sg ?_) | refine xt (sg ?_) | refine lx (g := sg ?_) | refine ct (hx := ?_) | refine cf (hy := ?_) | refine lr (g := sg ?_) | refine rt (sg ?_) | refine rt ?_ | refine sk ?_ | refine xt ?_ | refine f1 (g := sg ?_) | refine f2 (g := sg ?_) | refine f3 (g := sg ?_) | refine And.intro (by first | assumption | omega) ?_
        refine ax [] ?_
        have e : cellS x.ty a = (⟨true, 0, ⟨#[]⟩⟩, nxt a) := by
          unfold cellS
          rw [if_neg h, if_pos h2, if_neg h3]
        rw [e]
        exact ⟨rfl, rfl⟩
    · repeat first | refine nx ?_ | refine sq fun _ _ => ?_ | refine rg (sg ?_) | refine bl ?_ | refine sk (sg ?_) | refine xt (sg ?_) | refine lx (g := sg ?_) | refine ct (hx := ?_) | refine cf (hy := ?_) | refine lr (g := sg ?_) | refine rt (sg ?_) | refine rt ?_ | refine sk ?_ | refine xt ?_ | refine f1 (g := sg ?_) | refine f2 (g := sg ?_) | refine f3 (g := sg ?_) | refine And.intro (by first | assumption | omega) ?_
      refine cl [0] (sg ?_)
      refine (c73 3 a (by omega) (by omega)).mono ?_
      rintro r bx ⟨rfl, rfl⟩
      refine sg ?_
      repeat first | refine nx ?_ | refine sq fun _ _ => ?_ | refine rg (sg ?_) | refine bl ?_ | refine sk (sg ?_) | refine xt (sg ?_) | refine lx (g := sg ?_) | refine ct (hx := ?_) | refine cf (hy := ?_) | refine lr (g := sg ?_) | refine rt (sg ?_) | refine rt ?_ | refine sk ?_ | refine xt ?_ | refine f1 (g := sg ?_) | refine f2 (g := sg ?_) | refine f3 (g := sg ?_) | refine And.intro (by first | assumption | omega) ?_
      refine cb (fun h3 => ?_) (fun h3 => ?_)
      · repeat first | refine nx ?_ | refine sq fun _ _ => ?_ | refine rg (sg ?_) | refine bl ?_ | refine sk (sg ?_) | refine xt (sg ?_) | refine lx (g := sg ?_) | refine ct (hx := ?_) | refine cf (hy := ?_) | refine lr (g := sg ?_) | refine rt (sg ?_) | refine rt ?_ | refine sk ?_ | refine xt ?_ | refine f1 (g := sg ?_) | refine f2 (g := sg ?_) | refine f3 (g := sg ?_) | refine And.intro (by first | assumption | omega) ?_
        refine ax [] ?_
        have e : cellS x.ty a = (⟨false, IntKind.i64.wrap (drw 3 a - 1), ⟨#[]⟩⟩, nxt a) := by
          unfold cellS
          rw [if_neg h, if_neg h2, if_pos h3]
        rw [e]
        exact ⟨rfl, rfl⟩
      · repeat first | refine nx ?_ | refine sq fun _ _ => ?_ | refine rg (sg ?_) | refine bl ?_ | refine sk (sg ?_) | refine xt (sg ?_) | refine lx (g := sg ?_) | refine ct (hx := ?_) | refine cf (hy := ?_) | refine lr (g := sg ?_) | refine rt (sg ?_) | refine rt ?_ | refine sk ?_ | refine xt ?_ | refine f1 (g := sg ?_) | refine f2 (g := sg ?_) | refine f3 (g := sg ?_) | refine And.intro (by first | assumption | omega) ?_
        refine ax [] ?_
        have e : cellS x.ty a = (⟨true, 0, ⟨#[]⟩⟩, nxt a) := by
          unfold cellS
          rw [if_neg h, if_neg h2, if_neg h3]
        rw [e]
        exact ⟨rfl, rfl⟩
end Go.Proofs.YtdedmhmomoejkaaDoor.V
