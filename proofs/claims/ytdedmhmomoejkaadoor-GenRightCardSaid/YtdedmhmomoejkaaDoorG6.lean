import Derived.Test.YtdedmhmomoejkaaDoorG5
namespace Go.Proofs.YtdedmhmomoejkaaDoor.V
open Go Go.RowKit Go.Proofs.YtdedmhmomoejkaaDoorW.PrintLast
open Go.Proofs
set_option linter.unusedVariables false
set_option linter.unusedSimpArgs false
attribute [local irreducible] awp
--IMP G5
set_option maxRecDepth 100000
theorem colsS_len (t : Int) (h0 : 0 ≤ t) (h1 : t < 3) : colsS t ≠ [] ∧ (colsS t).length ≤ 3 := by
  have : t = 0 ∨ t = 1 ∨ t = 2 := by omega
  rcases this with rfl | rfl | rfl <;> exact ⟨by simp [colsS, col3], by decide⟩
theorem dgt_size (n : Int) : (dgt n).size ≤ 36 := by
  unfold dgt
  rw [ByteArray.size_extract]
  have : digS.size = 36 := rfl
  omega
theorem c33 (a : Int) : PC Tryd.prog 33 [dA] [dB a] (fun r bx => r = .agg (lc (cOp (oneS a).1)) ∧ bx = [dB (oneS a).2]) := by
  refine enter (rs := [.cell 2 44]) mx Tryd.func33 Tryd.ntmps33 fun Q0 hQ0 => ?_
  repeat first | refine nx ?_ | refine sq fun _ _ => ?_ | refine rg (sg ?_) | refine bl ?_ | refine sk (sg ?_) | refine xt (sg ?_) | refine lx (g := sg ?_) | refine ct (hx := ?_) | refine cf (hy := ?_) | refine lr (g := sg ?_) | refine rt (sg ?_) | refine rt ?_ | refine sk ?_ | refine xt ?_ | refine f1 (g := sg ?_) | refine f2 (g := sg ?_) | refine f3 (g := sg ?_) | refine And.intro (by first | assumption | omega) ?_
  refine cl [0] (sg ?_)
  refine (c73 12 a (by omega) (by omega)).mono ?_
  rintro r bx ⟨rfl, rfl⟩
  refine sg ?_
  refine cl [0] (sg ?_)
  refine (c73 3 _ (by omega) (by omega)).mono ?_
  rintro r bx ⟨rfl, rfl⟩
  refine sg ?_
  have hd := drw_rng 12 a (by omega) (by omega)
  obtain ⟨ht0, ht1⟩ := drw_rng 3 (nxt a) (by omega) (by omega)
  repeat first | refine nx ?_ | refine sq fun _ _ => ?_ | refine rg (sg ?_) | refine bl ?_ | refine sk (sg ?_) | refine xt (sg ?_) | refine lx (g := sg ?_) | refine ct (hx := ?_) | refine cf (hy := ?_) | refine lr (g := sg ?_) | refine rt (sg ?_) | refine rt ?_ | refine sk ?_ | refine xt ?_ | refine f1 (g := sg ?_) | refine f2 (g := sg ?_) | refine f3 (g := sg ?_) | refine And.intro (by first | assumption | omega) ?_
  refine cl [] (sg ?_)
  refine (c74 _ ht0 (by omega)).mono ?_
  rintro r bx ⟨rfl, rfl⟩
  refine sg ?_
  repeat first | refine nx ?_ | refine sq fun _ _ => ?_ | refine rg (sg ?_) | refine bl ?_ | refine sk (sg ?_) | refine xt (sg ?_) | refine lx (g := sg ?_) | refine ct (hx := ?_) | refine cf (hy := ?_) | refine lr (g := sg ?_) | refine rt (sg ?_) | refine rt ?_ | refine sk ?_ | refine xt ?_ | refine f1 (g := sg ?_) | refine f2 (g := sg ?_) | refine f3 (g := sg ?_) | refine And.intro (by first | assumption | omega) ?_
  refine ⟨?_, ?_⟩
  · have := dgt_size (drw 3 (nxt a))
    show 1 + _ ≤ _
    omega
  repeat first | refine nx ?_ | refine sq fun _ _ => ?_ | refine rg (sg ?_) | refine bl ?_ | refine sk (sg ?_) | refine xt (sg ?_) | refine lx (g := sg ?_) | refine ct (hx := ?_) | refine cf (hy := ?_) | refine lr (g := sg ?_) | refine rt (sg ?_) | refine rt ?_ | refine sk ?_ | refine xt ?_ | refine f1 (g := sg ?_) | refine f2 (g := sg ?_) | refine f3 (g := sg ?_) | refine And.intro (by first | assumption | omega) ?_
  refine cb (fun h0 => ?_) (fun h0 => ?_)
  · repeat first | refine nx ?_ | refine sq fun _ _ => ?_ | refine rg (sg ?_) | refine bl ?_ | refine sk (sg ?_) | refine xt (sg ?_) | refine lx (g := sg ?_) | refine ct (hx := ?_) | refine cf (hy := ?_) | refine lr (g := sg ?_) | refine rt (sg ?_) | refine rt ?_ | refine sk ?_ | refine xt ?_ | refine f1 (g := sg ?_) | refine f2 (g := sg ?_) | refine f3 (g := sg ?_) | refine And.intro (by first | assumption | omega) ?_
    refine cl [] (sg ?_)
    refine (c12 _).mono ?_
    rintro r bx ⟨rfl, rfl⟩
    refine sg ?_
    refine ⟨rfl, rfl, ?_⟩
    repeat first | refine nx ?_ | refine sq fun _ _ => ?_ | refine rg (sg ?_) | refine bl ?_ | refine sk (sg ?_) | refine xt (sg ?_) | refine lx (g := sg ?_) | refine ct (hx := ?_) | refine cf (hy := ?_) | refine lr (g := sg ?_) | refine rt (sg ?_) | refine rt ?_ | refine sk ?_ | refine xt ?_ | refine f1 (g := sg ?_) | refine f2 (g := sg ?_) | refine f3 (g := sg ?_) | refine And.intro (by first | assumption | omega) ?_
    have e : oneS a = (⟨1, nameS (drw 3 (nxt a)), colsS (drw 3 (nxt a)), [], pr0, qu0⟩, (nxt (nxt a))) := by
      unfold oneS
      rw [if_pos h0]
    rw [e]
    refine aw [] (.agg (lc (cOp ⟨1, nameS (drw 3 (nxt a)), colsS (drw 3 (nxt a)), [], pr0, qu0⟩))) [dB (nxt (nxt a))] ?_ (leBs.refl _) ⟨rfl, rfl⟩
    simp only [cOp, cQu, whereS, pr0, qu0, cPr, lc, List.map_cons, List.map_nil, List.map_append, List.length_nil, List.cons_append, List.nil_append]
    refine .agg ?_
    repeat first | exact leLs.nil | refine leLs.cons (by first | exact .refl _ | exact .c _ _ (.nil _ _)) ?_
  · repeat first | refine nx ?_ | refine sq fun _ _ => ?_ | refine rg (sg ?_) | refine bl ?_ | refine sk (sg ?_) | refine xt (sg ?_) | refine lx (g := sg ?_) | refine ct (hx := ?_) | refine cf (hy := ?_) | refine lr (g := sg ?_) | refine rt (sg ?_) | refine rt ?_ | refine sk ?_ | refine xt ?_ | refine f1 (g := sg ?_) | refine f2 (g := sg ?_) | refine f3 (g := sg ?_) | refine And.intro (by first | assumption | omega) ?_
    refine cb (fun h1 => ?_) (fun h1 => ?_)
    · repeat first | refine nx ?_ | refine sq fun _ _ => ?_ | refine rg (sg ?_) | refine bl ?_ | refine sk (sg ?_) | refine xt (sg ?_) | refine lx (g := sg ?_) | refine ct (hx := ?_) | refine cf (hy := ?_) | refine lr (g := sg ?_) | refine rt (sg ?_) | refine rt ?_ | refine sk ?_ | refine xt ?_ | refine f1 (g := sg ?_) | refine f2 (g := sg ?_) | refine f3 (g := sg ?_) | refine And.intro (by first | assumption | omega) ?_
      refine cl [] (sg ?_)
      refine (c12 _).mono ?_
      rintro r bx ⟨rfl, rfl⟩
      refine sg ?_
      refine cl [0] (sg ?_)
      refine (c75 _ _ (colsS_len _ ht0 ht1).1 (colsS_len _ ht0 ht1).2).mono ?_
      rintro r bx ⟨rfl, rfl⟩
      refine sg ?_
      refine ⟨rfl, rfl, ?_⟩
      repeat first | refine nx ?_ | refine sq fun _ _ => ?_ | refine rg (sg ?_) | refine bl ?_ | refine sk (sg ?_) | refine xt (sg ?_) | refine lx (g := sg ?_) | refine ct (hx := ?_) | refine cf (hy := ?_) | refine lr (g := sg ?_) | refine rt (sg ?_) | refine rt ?_ | refine sk ?_ | refine xt ?_ | refine f1 (g := sg ?_) | refine f2 (g := sg ?_) | refine f3 (g := sg ?_) | refine And.intro (by first | assumption | omega) ?_
      have e : oneS a = (⟨3, nameS (drw 3 (nxt a)), [], (rows1 (colsS (drw 3 (nxt a))) (nxt (nxt a))).1, pr0, qu0⟩, (rows1 (colsS (drw 3 (nxt a))) (nxt (nxt a))).2) := by
        unfold oneS
        rw [if_neg h0, if_pos h1]
      rw [e]
      refine aw [] (.agg (lc (cOp ⟨3, nameS (drw 3 (nxt a)), [], (rows1 (colsS (drw 3 (nxt a))) (nxt (nxt a))).1, pr0, qu0⟩))) [dB (rows1 (colsS (drw 3 (nxt a))) (nxt (nxt a))).2] ?_ (leBs.refl _) ⟨rfl, rfl⟩
      simp only [cOp, cQu, whereS, pr0, qu0, cPr, lc, List.map_cons, List.map_nil, List.map_append, List.length_nil, List.cons_append, List.nil_append]
      refine .agg ?_
      repeat first | exact leLs.nil | refine leLs.cons (by first | exact .refl _ | exact .c _ _ (.nil _ _)) ?_
    · repeat first | refine nx ?_ | refine sq fun _ _ => ?_ | refine rg (sg ?_) | refine bl ?_ | refine sk (sg ?_) | refine xt (sg ?_) | refine lx (g := sg ?_) | refine ct (hx := ?_) | refine cf (hy := ?_) | refine lr (g := sg ?_) | refine rt (sg ?_) | refine rt ?_ | refine sk ?_ | refine xt ?_ | refine f1 (g := sg ?_) | refine f2 (g := sg ?_) | refine f3 (g := sg ?_) | refine And.intro (by first | assumption | omega) ?_
      refine cb (fun h2 => ?_) (fun h2 => ?_)
      · repeat first | refine nx ?_ | refine sq fun _ _ => ?_ | refine rg (sg ?_) | refine bl ?_ | refine sk (sg ?_) | refine xt (sg ?_) | refine lx (g := sg ?_) | refine ct (hx := ?_) | refine cf (hy := ?_) | refine lr (g := sg ?_) | refine rt (sg ?_) | refine rt ?_ | refine sk ?_ | refine xt ?_ | refine f1 (g := sg ?_) | refine f2 (g := sg ?_) | refine f3 (g := sg ?_) | refine And.intro (by first | assumption | omega) ?_
        refine cl [0] (sg ?_)
        refine (c76 3 _).mono ?_
        rintro r bx ⟨rfl, rfl⟩
        simp only [whereS, cPr, lc]
        refine sg ?_
        repeat first | refine nx ?_ | refine sq fun _ _ => ?_ | refine rg (sg ?_) | refine bl ?_ | refine sk (sg ?_) | refine xt (sg ?_) | refine lx (g := sg ?_) | refine ct (hx := ?_) | refine cf (hy := ?_) | refine lr (g := sg ?_) | refine rt (sg ?_) | refine rt ?_ | refine sk ?_ | refine xt ?_ | refine f1 (g := sg ?_) | refine f2 (g := sg ?_) | refine f3 (g := sg ?_) | refine And.intro (by first | assumption | omega) ?_
        have e : oneS a = (⟨4, nameS (drw 3 (nxt a)), [], [], (whereS 3 (nxt (nxt a))).1, qu0⟩, (whereS 3 (nxt (nxt a))).2) := by
          unfold oneS
          rw [if_neg h0, if_neg h1, if_pos h2]
        rw [e]
        refine aw [] (.agg (lc (cOp ⟨4, nameS (drw 3 (nxt a)), [], [], (whereS 3 (nxt (nxt a))).1, qu0⟩))) [dB (whereS 3 (nxt (nxt a))).2] ?_ (leBs.refl _) ⟨rfl, rfl⟩
        simp only [cOp, cQu, whereS, pr0, qu0, cPr, lc, List.map_cons, List.map_nil, List.map_append, List.length_nil, List.cons_append, List.nil_append]
        refine .agg ?_
        repeat first | exact leLs.nil | refine leLs.cons (by first | exact .refl _ | exact .c _ _ (.nil _ _)) ?_
      · repeat first | refine nx ?_ | refine sq fun _ _ => ?_ | refine rg (sg ?_) | refine bl ?_ | refine sk (sg ?_) | refine xt (sg ?_) | refine lx (g := sg ?_) | refine ct (hx := ?_) | refine cf (hy := ?_) | refine lr (g := sg ?_) | refine rt (sg ?_) | refine rt ?_ | refine sk ?_ | refine xt ?_ | refine f1 (g := sg ?_) | refine f2 (g := sg ?_) | refine f3 (g := sg ?_) | refine And.intro (by first | assumption | omega) ?_
        refine cb (fun h3 => ?_) (fun h3 => ?_)
        · repeat first | refine nx ?_ | refine sq fun _ _ => ?_ | refine rg (sg ?_) | refine bl ?_ | refine sk (sg ?_) | refine xt (sg ?_) | refine lx (g := sg ?_) | refine ct (hx := ?_) | refine cf (hy := ?_) | refine lr (g := sg ?_) | refine rt (sg ?_) | refine rt ?_ | refine sk ?_ | refine xt ?_ | refine f1 (g := sg ?_) | refine f2 (g := sg ?_) | refine f3 (g := sg ?_) | refine And.intro (by first | assumption | omega) ?_
          refine cl [0] (sg ?_)
          refine (c77 _ _).mono ?_
          rintro r bx ⟨rfl, rfl⟩
          have e : oneS a = scanS (⟨#[116]⟩ ++ dgt (drw 3 (nxt a))) (nxt (nxt a)) := by
            unfold oneS
            rw [if_neg h0, if_neg h1, if_neg h2, if_pos h3]
            rfl
          generalize scanS (⟨#[116]⟩ ++ dgt (drw 3 (nxt a))) (nxt (nxt a)) = w at e ⊢
          obtain ⟨⟨k1, k2, k3, k4, ⟨p1, p2, p3, p4, p5, p6, p7⟩, ⟨q1, q2, ⟨r1, r2, r3, r4, r5, r6, r7⟩, q4, q5⟩⟩, w⟩ := w
          simp only [cOp, cQu, cPr, lc, List.map_cons, List.map_nil, List.map_append, List.cons_append, List.nil_append]
          refine sg ?_
          refine ⟨rfl, ?_⟩
          repeat first | refine nx ?_ | refine sq fun _ _ => ?_ | refine rg (sg ?_) | refine bl ?_ | refine sk (sg ?_) | refine xt (sg ?_) | refine lx (g := sg ?_) | refine ct (hx := ?_) | refine cf (hy := ?_) | refine lr (g := sg ?_) | refine rt (sg ?_) | refine rt ?_ | refine sk ?_ | refine xt ?_ | refine f1 (g := sg ?_) | refine f2 (g := sg ?_) | refine f3 (g := sg ?_) | refine And.intro (by first | assumption | omega) ?_
          refine ax [] ?_
          rw [e]
          exact ⟨rfl, rfl⟩
        · repeat first | refine nx ?_ | refine sq fun _ _ => ?_ | refine rg (sg ?_) | refine bl ?_ | refine sk (sg ?_) | refine xt (sg ?_) | refine lx (g := sg ?_) | refine ct (hx := ?_) | refine cf (hy := ?_) | refine lr (g := sg ?_) | refine rt (sg ?_) | refine rt ?_ | refine sk ?_ | refine xt ?_ | refine f1 (g := sg ?_) | refine f2 (g := sg ?_) | refine f3 (g := sg ?_) | refine And.intro (by first | assumption | omega) ?_
          refine cb (fun h4 => ?_) (fun h4 => ?_)
          · repeat first | refine nx ?_ | refine sq fun _ _ => ?_ | refine rg (sg ?_) | refine bl ?_ | refine sk (sg ?_) | refine xt (sg ?_) | refine lx (g := sg ?_) | refine ct (hx := ?_) | refine cf (hy := ?_) | refine lr (g := sg ?_) | refine rt (sg ?_) | refine rt ?_ | refine sk ?_ | refine xt ?_ | refine f1 (g := sg ?_) | refine f2 (g := sg ?_) | refine f3 (g := sg ?_) | refine And.intro (by first | assumption | omega) ?_
            have e : oneS a = (⟨5, nameS (drw 3 (nxt a)), [], [], pr0, qu0⟩, (nxt (nxt a))) := by
              unfold oneS
              rw [if_neg h0, if_neg h1, if_neg h2, if_neg h3, if_pos h4]
            rw [e]
            refine aw [] (.agg (lc (cOp ⟨5, nameS (drw 3 (nxt a)), [], [], pr0, qu0⟩))) [dB (nxt (nxt a))] ?_ (leBs.refl _) ⟨rfl, rfl⟩
            simp only [cOp, cQu, whereS, pr0, qu0, cPr, lc, List.map_cons, List.map_nil, List.map_append, List.length_nil, List.cons_append, List.nil_append]
            refine .agg ?_
            repeat first | exact leLs.nil | refine leLs.cons (by first | exact .refl _ | exact .c _ _ (.nil _ _)) ?_
          · repeat first | refine nx ?_ | refine sq fun _ _ => ?_ | refine rg (sg ?_) | refine bl ?_ | refine sk (sg ?_) | refine xt (sg ?_) | refine lx (g := sg ?_) | refine ct (hx := ?_) | refine cf (hy := ?_) | refine lr (g := sg ?_) | refine rt (sg ?_) | refine rt ?_ | refine sk ?_ | refine xt ?_ | refine f1 (g := sg ?_) | refine f2 (g := sg ?_) | refine f3 (g := sg ?_) | refine And.intro (by first | assumption | omega) ?_
            refine cb (fun h5 => ?_) (fun h5 => ?_)
            · repeat first | refine nx ?_ | refine sq fun _ _ => ?_ | refine rg (sg ?_) | refine bl ?_ | refine sk (sg ?_) | refine xt (sg ?_) | refine lx (g := sg ?_) | refine ct (hx := ?_) | refine cf (hy := ?_) | refine lr (g := sg ?_) | refine rt (sg ?_) | refine rt ?_ | refine sk ?_ | refine xt ?_ | refine f1 (g := sg ?_) | refine f2 (g := sg ?_) | refine f3 (g := sg ?_) | refine And.intro (by first | assumption | omega) ?_
              have e : oneS a = (⟨6, ⟨#[]⟩, [], [], pr0, qu0⟩, (nxt (nxt a))) := by
                unfold oneS
                rw [if_neg h0, if_neg h1, if_neg h2, if_neg h3, if_neg h4, if_pos h5]
              rw [e]
              refine aw [] (.agg (lc (cOp ⟨6, ⟨#[]⟩, [], [], pr0, qu0⟩))) [dB (nxt (nxt a))] ?_ (leBs.refl _) ⟨rfl, rfl⟩
              simp only [cOp, cQu, whereS, pr0, qu0, cPr, lc, List.map_cons, List.map_nil, List.map_append, List.length_nil, List.cons_append, List.nil_append]
              refine .agg ?_
              repeat first | exact leLs.nil | refine leLs.cons (by first | exact .refl _ | exact .c _ _ (.nil _ _)) ?_
            · repeat first | refine nx ?_ | refine sq fun _ _ => ?_ | refine rg (sg ?_) | refine bl ?_ | refine sk (sg ?_) | refine xt (sg ?_) | refine lx (g := sg ?_) | refine ct (hx := ?_) | refine cf (hy := ?_) | refine lr (g := sg ?_) | refine rt (sg ?_) | refine rt ?_ | refine sk ?_ | refine xt ?_ | refine f1 (g := sg ?_) | refine f2 (g := sg ?_) | refine f3 (g := sg ?_) | refine And.intro (by first | assumption | omega) ?_
              have e : oneS a = (⟨8, nameS (drw 3 (nxt a)), [], [], pr0, qu0⟩, (nxt (nxt a))) := by
                unfold oneS
                rw [if_neg h0, if_neg h1, if_neg h2, if_neg h3, if_neg h4, if_neg h5]
              rw [e]
              refine aw [] (.agg (lc (cOp ⟨8, nameS (drw 3 (nxt a)), [], [], pr0, qu0⟩))) [dB (nxt (nxt a))] ?_ (leBs.refl _) ⟨rfl, rfl⟩
              simp only [cOp, cQu, whereS, pr0, qu0, cPr, lc, List.map_cons, List.map_nil, List.map_append, List.length_nil, List.cons_append, List.nil_append]
              refine .agg ?_
              repeat first | exact leLs.nil | refine leLs.cons (by first | exact .refl _ | exact .c _ _ (.nil _ _)) ?_
end Go.Proofs.YtdedmhmomoejkaaDoor.V
