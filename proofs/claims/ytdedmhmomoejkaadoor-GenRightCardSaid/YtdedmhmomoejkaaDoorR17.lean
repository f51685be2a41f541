import Derived.Test.YtdedmhmomoejkaaDoorR16
namespace Go.Proofs.YtdedmhmomoejkaaDoor.V
open Go Go.RowKit Go.Proofs.YtdedmhmomoejkaaDoorW.PrintLast
open Go.Proofs
set_option linter.unusedVariables false
set_option linter.unusedSimpArgs false
attribute [local irreducible] awp
set_option maxRecDepth 100000
/-- What Do answers. -/
def doneR (n : Nat) (r : A) (bx : List B) : Prop := bx = [] ∧ ∃ (l' : List Tb) (e k : Int) (x y : C), r = twoR l' e k x y ∧ e ≠ 1 ∧ e ≠ 10 ∧ lcell (.c x) = true ∧ lcell (.c y) = true ∧ l'.length ≤ n + 1 ∧ ∀ t ∈ l', okT t
theorem lc_op (k : Int) (nm : ByteArray) (c : List Co) (rows : List (List Ce)) (o1 m1 k1 o2 m2 k2 : Int) (c1 p1 t2 c2 p2 by2 : ByteArray) (v1 v2 : Ce) (cs2 : List ByteArray) (ag : List Ae) : lc (cOp ⟨k, nm, c, rows, .mk o1 c1 m1 v1 k1 p1 [], ⟨t2, cs2, .mk o2 c2 m2 v2 k2 p2 [], ag, by2⟩⟩) =
  [xI k, xS nm, .c (.sl c.length 3 (elemsOf (c.map cCo))), .c (.sl rows.length 1 (elemsOf (rows.map cRow))), xI o1, xS c1, xI m1, xB v1.nl, xI v1.i, xS v1.s, xI k1, xS p1, .c (.sl 0 9 (elemsOf [])), xS t2, .c (.sl cs2.length 1 (elemsOf (cs2.map cSt))), xI o2, xS c2, xI m2, xB v2.nl, xI v2.i, xS v2.s, xI k2, xS p2, .c (.sl 0 9 (elemsOf [])), .c (.sl ag.length 2 (elemsOf (ag.map cAe))), xS by2] := rfl
theorem tab_at (t : Tb) (h : okT t) (i : Int) (h0 : 0 ≤ i) (h1 : i < 3) (he : t.nm = nameS i) : t.cols = colsS i ∧ (∀ r ∈ t.rows, okR (colsS i) r) ∧ t.rows.length ≤ 200 := by
  obtain ⟨j, g0, g1, e1, e2, e3, e4⟩ := h
  obtain rfl := nm_inj i j h0 h1 g0 g1 (he.symm.trans e1)
  exact ⟨e2, e3, e4⟩
set_option maxHeartbeats 8000000 in
theorem c16_1 (l : List Tb) (hl : l.length ≤ 100) (ht : ∀ t ∈ l, okT t) (i : Int) (h0 : 0 ≤ i) (h1 : i < 3) : PC Tryd.prog 16 [.one (.c (rowA 3 cTb l)), .agg (lc (cOp ⟨1, nameS i, colsS i, [], pr0, qu0⟩))] [] (doneR l.length) := by
  have hn := okN_name i h0 h1
  have hK := okK_cols i h0 h1
  have hA := okA_cols i h0 h1
  generalize hnm : nameS i = nm at *
  generalize hcs : colsS i = cs at *
  refine enter (rs := [.tmp 4, .cell 5 50]) mx Tryd.func16 Tryd.ntmps16 fun Q0 hQ0 => ?_
  simp only [pr0, qu0, lc_op]
  refine sq fun _ _ => ?_
  refine rg (sg ?_)
  refine nx ?_
  refine sq fun _ _ => ?_
  refine rg (sg ?_)
  refine nx ?_
  refine sq fun _ _ => ?_
  refine sq fun _ _ => ?_
  refine rg (sg ?_)
  refine nx ?_
  refine bl ?_
  refine sq fun _ _ => ?_
  refine sq fun _ _ => ?_
  refine rg (sg ?_)
  refine nx ?_
  refine cf (hy := ?_)
  refine rg (sg ?_)
  refine nx ?_
  refine cf (hy := ?_)
  refine sq fun _ _ => ?_
  refine rg (sg ?_)
  refine nx ?_
  refine cf (hy := ?_)
  refine sq fun _ _ => ?_
  refine rg (sg ?_)
  refine nx ?_
  refine cf (hy := ?_)
  refine sk (sg ?_)
  refine nx ?_
  refine sq fun _ _ => ?_
  refine sq fun _ _ => ?_
  refine rg (sg ?_)
  refine cl [] (sg ?_)
  refine (c40 _ (by first | assumption | omega | trivial | rfl)).mono ?_
  rintro r bx ⟨rfl, rfl⟩
  refine sg ?_
  refine nx ?_
  refine cf (hy := ?_)
  refine sk (sg ?_)
  refine nx ?_
  refine sq fun _ _ => ?_
  refine rg (sg ?_)
  refine cl [] (sg ?_)
  refine (c42 _ _ (by first | assumption | omega | trivial | rfl)).mono ?_
  rintro r bx ⟨rfl, (⟨rfl, hno⟩ | ⟨j, hj, rfl, he, -⟩)⟩
  · refine sg ?_
    refine nx ?_
    refine sq fun _ _ => ?_
    refine sq fun _ _ => ?_
    refine rg (sg ?_)
    refine nx ?_
    refine ct (hx := ?_)
    refine sq fun _ _ => ?_
    refine sq fun _ _ => ?_
    refine rg (sg ?_)
    refine cl [] (sg ?_)
    refine (c43 _ (by first | assumption | omega | trivial | rfl)).mono ?_
    rintro r bx ⟨rfl, rfl⟩
    refine sg ?_
    refine nx ?_
    refine sq fun _ _ => ?_
    refine rg (sg ?_)
    refine nx ?_
    refine cf (hy := ?_)
    refine sk (sg ?_)
    refine nx ?_
    refine sq fun _ _ => ?_
    refine sq fun _ _ => ?_
    refine rg (sg ?_)
    refine nx ?_
    refine cf (hy := ?_)
    refine sk (sg ?_)
    refine nx ?_
    refine sq fun _ _ => ?_
    refine sq fun _ _ => ?_
    refine rg (sg ?_)
    refine nx ?_
    refine cb (fun h => ?_) (fun h => ?_)
    · refine sq fun _ _ => ?_
      refine rg (sg ?_)
      refine cl [] (sg ?_)
      refine (c41 _ _).mono ?_
      rintro r bx ⟨rfl, rfl⟩
      refine sg ?_
      refine nx ?_
      refine rt (sg ?_)
      refine f2 (g := sg ?_)
      refine ⟨_, _, rfl, rfl, ?_⟩
      exact ax [] ⟨rfl, l, 4, 0, nilC, nilC, rfl, by decide, by decide, rfl, rfl, by omega, ht⟩
    · refine sk (sg ?_)
      refine nx ?_
      refine sq fun _ _ => ?_
      refine rg (sg ?_)
      refine cl [] (sg ?_)
      refine (PC.le (c44 l ⟨nm, cs, []⟩ (by omega))).mono ?_
      rintro r bx ⟨rfl, l', rfl, hl', hall⟩
      refine sg ?_
      refine nx ?_
      refine rt (sg ?_)
      refine f2 (g := sg ?_)
      refine ⟨_, _, rfl, rfl, ?_⟩
      refine ax [] ⟨rfl, l', 0, 0, nilC, nilC, rfl, by decide, by decide, rfl, rfl, hl', fun t h => ?_⟩
      rcases hall t h with rfl | h
      · exact ⟨i, h0, h1, hnm.symm, hcs.symm, fun r h => (nomatch h), Nat.zero_le _⟩
      · exact ht t h
  · refine sg ?_
    refine nx ?_
    refine sq fun _ _ => ?_
    refine sq fun _ _ => ?_
    refine rg (sg ?_)
    refine nx ?_
    refine ct (hx := ?_)
    refine sq fun _ _ => ?_
    refine sq fun _ _ => ?_
    refine rg (sg ?_)
    refine cl [] (sg ?_)
    refine (c43 _ (by first | assumption | omega | trivial | rfl)).mono ?_
    rintro r bx ⟨rfl, rfl⟩
    refine sg ?_
    refine nx ?_
    refine sq fun _ _ => ?_
    refine rg (sg ?_)
    refine nx ?_
    refine cf (hy := ?_)
    refine sk (sg ?_)
    refine nx ?_
    refine sq fun _ _ => ?_
    refine sq fun _ _ => ?_
    refine rg (sg ?_)
    refine nx ?_
    refine ct (hx := ?_)
    refine sq fun _ _ => ?_
    refine rg (sg ?_)
    refine cl [] (sg ?_)
    refine (c41 _ _).mono ?_
    rintro r bx ⟨rfl, rfl⟩
    refine sg ?_
    refine nx ?_
    refine rt (sg ?_)
    refine f2 (g := sg ?_)
    refine ⟨_, _, rfl, rfl, ?_⟩
    exact ax [] ⟨rfl, l, 6, 0, nilC, nilC, rfl, by decide, by decide, rfl, rfl, by omega, ht⟩
set_option maxHeartbeats 8000000 in
theorem c16_3 (l : List Tb) (hl : l.length ≤ 100) (ht : ∀ t ∈ l, okT t) (i : Int) (h0 : 0 ≤ i) (h1 : i < 3) (rows : List (List Ce)) (hr : ∀ r ∈ rows, okR (colsS i) r) (hr4 : rows.length ≤ 4) : PC Tryd.prog 16 [.one (.c (rowA 3 cTb l)), .agg (lc (cOp ⟨3, nameS i, [], rows, pr0, qu0⟩))] [] (doneR l.length) := by
  have hn := okN_name i h0 h1
  generalize hnm : nameS i = nm at *
  refine enter (rs := [.tmp 4, .cell 5 50]) mx Tryd.func16 Tryd.ntmps16 fun Q0 hQ0 => ?_
  simp only [pr0, qu0, lc_op]
  refine sq fun _ _ => ?_
  refine rg (sg ?_)
  refine nx ?_
  refine sq fun _ _ => ?_
  refine rg (sg ?_)
  refine nx ?_
  refine sq fun _ _ => ?_
  refine sq fun _ _ => ?_
  refine rg (sg ?_)
  refine nx ?_
  refine bl ?_
  refine sq fun _ _ => ?_
  refine sq fun _ _ => ?_
  refine rg (sg ?_)
  refine nx ?_
  refine cf (hy := ?_)
  refine rg (sg ?_)
  refine nx ?_
  refine cf (hy := ?_)
  refine sq fun _ _ => ?_
  refine rg (sg ?_)
  refine nx ?_
  refine cf (hy := ?_)
  refine sq fun _ _ => ?_
  refine rg (sg ?_)
  refine nx ?_
  refine cf (hy := ?_)
  refine sk (sg ?_)
  refine nx ?_
  refine sq fun _ _ => ?_
  refine sq fun _ _ => ?_
  refine rg (sg ?_)
  refine cl [] (sg ?_)
  refine (c40 _ (by first | assumption | omega | trivial | rfl)).mono ?_
  rintro r bx ⟨rfl, rfl⟩
  refine sg ?_
  refine nx ?_
  refine cf (hy := ?_)
  refine sk (sg ?_)
  refine nx ?_
  refine sq fun _ _ => ?_
  refine rg (sg ?_)
  refine cl [] (sg ?_)
  refine (c42 _ _ (by first | assumption | omega | trivial | rfl)).mono ?_
  rintro r bx ⟨rfl, (⟨rfl, hno⟩ | ⟨j, hj, rfl, he, -⟩)⟩
  · refine sg ?_
    refine nx ?_
    refine sq fun _ _ => ?_
    refine sq fun _ _ => ?_
    refine rg (sg ?_)
    refine nx ?_
    refine cf (hy := ?_)
    refine sk (sg ?_)
    refine nx ?_
    refine sq fun _ _ => ?_
    refine sq fun _ _ => ?_
    refine rg (sg ?_)
    refine nx ?_
    refine ct (hx := ?_)
    refine sq fun _ _ => ?_
    refine rg (sg ?_)
    refine cl [] (sg ?_)
    refine (c41 _ _).mono ?_
    rintro r bx ⟨rfl, rfl⟩
    refine sg ?_
    refine nx ?_
    refine rt (sg ?_)
    refine f2 (g := sg ?_)
    refine ⟨_, _, rfl, rfl, ?_⟩
    exact ax [] ⟨rfl, l, 5, 0, nilC, nilC, rfl, by decide, by decide, rfl, rfl, by omega, ht⟩
  · refine sg ?_
    obtain ⟨e2, e3, e4⟩ := tab_at _ (ht l[j] (List.getElem_mem hj)) i h0 h1 (he.trans hnm.symm)
    have hr' : ∀ r ∈ rows, okR l[j].cols r := fun r h => by rw [e2]; exact hr r h
    have hcl : l[j].cols.length ≤ 1000 := by rw [e2]; have := (okK_cols i h0 h1).2.2.2; omega
    refine nx ?_
    refine sq fun _ _ => ?_
    refine sq fun _ _ => ?_
    refine rg (sg ?_)
    refine nx ?_
    refine cf (hy := ?_)
    refine sk (sg ?_)
    refine nx ?_
    refine sq fun _ _ => ?_
    refine sq fun _ _ => ?_
    refine rg (sg ?_)
    refine nx ?_
    refine cf (hy := ?_)
    refine sk (sg ?_)
    refine nx ?_
    refine sq fun _ _ => ?_
    refine rg (sg ?_)
    refine and_assoc.2 ?_
    refine And.intro (by first | assumption | omega | rfl | trivial) ?_
    refine And.intro (by first | assumption | omega | rfl | trivial) ?_
    simp (disch := omega) only [el_at, ml_Ce]
    refine sg ?_
    refine nx ?_
    refine sq fun _ _ => ?_
    refine sq fun _ _ => ?_
    refine rg (sg ?_)
    refine nx ?_
    refine bl ?_
    refine sq fun _ _ => ?_
    refine rg (sg ?_)
    refine nx ?_
    refine cf (hy := ?_)
    refine sq fun _ _ => ?_
    refine rg (sg ?_)
    refine nx ?_
    refine ct (hx := ?_)
    refine sq fun _ _ => ?_
    refine rg (sg ?_)
    refine cl [] (sg ?_)
    refine (c45 _ _ _ (by first | assumption | omega | trivial | rfl) (by first | assumption | omega | trivial | rfl) (by first | assumption | omega | trivial | rfl) (by first | assumption | omega | trivial | rfl) (by first | assumption | omega | trivial | rfl)).mono ?_
    rintro r bx ⟨rfl, l', e, n, rfl, h5, hl', hall⟩
    refine sg ?_
    refine nx ?_
    refine rt (sg ?_)
    refine f2 (g := sg ?_)
    refine ⟨_, _, rfl, rfl, ?_⟩
    refine ax [] ⟨rfl, l', e, n, nilC, nilC, rfl, by omega, by omega, rfl, rfl, hl', fun t h => ?_⟩
    rcases hall t h with ⟨rfl, h9⟩ | h
    · exact ⟨i, h0, h1, he.trans hnm.symm, e2, fun r h => (List.mem_append.1 h).elim (e3 r) (hr r), by show (l[j].rows ++ rows).length ≤ 200; rw [List.length_append]; exact h9⟩
    · exact ht t h
set_option maxHeartbeats 8000000 in
theorem c16_4 (l : List Tb) (hl : l.length ≤ 100) (ht : ∀ t ∈ l, okT t) (i : Int) (h0 : 0 ≤ i) (h1 : i < 3) (v : Int) : PC Tryd.prog 16 [.one (.c (rowA 3 cTb l)), .agg (lc (cOp ⟨4, nameS i, [], [], prA 3 v, qu0⟩))] [] (doneR l.length) := by
  have hn := okN_name i h0 h1
  generalize hnm : nameS i = nm at *
  refine enter (rs := [.tmp 4, .cell 5 50]) mx Tryd.func16 Tryd.ntmps16 fun Q0 hQ0 => ?_
  simp only [pr0, qu0, lc_op]
  refine sq fun _ _ => ?_
  refine rg (sg ?_)
  refine nx ?_
  refine sq fun _ _ => ?_
  refine rg (sg ?_)
  refine nx ?_
  refine sq fun _ _ => ?_
  refine sq fun _ _ => ?_
  refine rg (sg ?_)
  refine nx ?_
  refine bl ?_
  refine sq fun _ _ => ?_
  refine sq fun _ _ => ?_
  refine rg (sg ?_)
  refine nx ?_
  refine cf (hy := ?_)
  refine rg (sg ?_)
  refine nx ?_
  refine cf (hy := ?_)
  refine sq fun _ _ => ?_
  refine rg (sg ?_)
  refine nx ?_
  refine cf (hy := ?_)
  refine sq fun _ _ => ?_
  refine rg (sg ?_)
  refine nx ?_
  refine cf (hy := ?_)
  refine sk (sg ?_)
  refine nx ?_
  refine sq fun _ _ => ?_
  refine sq fun _ _ => ?_
  refine rg (sg ?_)
  refine cl [] (sg ?_)
  refine (c40 _ (by first | assumption | omega | trivial | rfl)).mono ?_
  rintro r bx ⟨rfl, rfl⟩
  refine sg ?_
  refine nx ?_
  refine cf (hy := ?_)
  refine sk (sg ?_)
  refine nx ?_
  refine sq fun _ _ => ?_
  refine rg (sg ?_)
  refine cl [] (sg ?_)
  refine (c42 _ _ (by first | assumption | omega | trivial | rfl)).mono ?_
  rintro r bx ⟨rfl, (⟨rfl, hno⟩ | ⟨j, hj, rfl, he, -⟩)⟩
  · refine sg ?_
    refine nx ?_
    refine sq fun _ _ => ?_
    refine sq fun _ _ => ?_
    refine rg (sg ?_)
    refine nx ?_
    refine cf (hy := ?_)
    refine sk (sg ?_)
    refine nx ?_
    refine sq fun _ _ => ?_
    refine sq fun _ _ => ?_
    refine rg (sg ?_)
    refine nx ?_
    refine ct (hx := ?_)
    refine sq fun _ _ => ?_
    refine rg (sg ?_)
    refine cl [] (sg ?_)
    refine (c41 _ _).mono ?_
    rintro r bx ⟨rfl, rfl⟩
    refine sg ?_
    refine nx ?_
    refine rt (sg ?_)
    refine f2 (g := sg ?_)
    refine ⟨_, _, rfl, rfl, ?_⟩
    exact ax [] ⟨rfl, l, 5, 0, nilC, nilC, rfl, by decide, by decide, rfl, rfl, by omega, ht⟩
  · refine sg ?_
    obtain ⟨e2, e3, e4⟩ := tab_at _ (ht l[j] (List.getElem_mem hj)) i h0 h1 (he.trans hnm.symm)
    have hK : okK l[j].cols := by rw [e2]; exact okK_cols i h0 h1
    have hA : okA l[j].cols := by rw [e2]; exact okA_cols i h0 h1
    have hp : ∀ r ∈ l[j].rows, 0 < r.length := fun r h => by rw [(e3 r h).1]; exact (okK_cols i h0 h1).2.2.1
    refine nx ?_
    refine sq fun _ _ => ?_
    refine sq fun _ _ => ?_
    refine rg (sg ?_)
    refine nx ?_
    refine cf (hy := ?_)
    refine sk (sg ?_)
    refine nx ?_
    refine sq fun _ _ => ?_
    refine sq fun _ _ => ?_
    refine rg (sg ?_)
    refine nx ?_
    refine cf (hy := ?_)
    refine sk (sg ?_)
    refine nx ?_
    refine sq fun _ _ => ?_
    refine rg (sg ?_)
    refine and_assoc.2 ?_
    refine And.intro (by first | assumption | omega | rfl | trivial) ?_
    refine And.intro (by first | assumption | omega | rfl | trivial) ?_
    simp (disch := omega) only [el_at, ml_Ce]
    refine sg ?_
    refine nx ?_
    refine sq fun _ _ => ?_
    refine sq fun _ _ => ?_
    refine rg (sg ?_)
    refine nx ?_
    refine bl ?_
    refine sq fun _ _ => ?_
    refine rg (sg ?_)
    refine nx ?_
    refine cf (hy := ?_)
    refine sq fun _ _ => ?_
    refine rg (sg ?_)
    refine nx ?_
    refine cf (hy := ?_)
    refine sq fun _ _ => ?_
    refine rg (sg ?_)
    refine nx ?_
    refine ct (hx := ?_)
    refine sq fun _ _ => ?_
    refine rg (sg ?_)
    refine cl [] (sg ?_)
    refine (c46 _ _ _ _ (by first | assumption | omega | trivial | rfl) (by first | assumption | omega | trivial | rfl) (by first | assumption | omega | trivial | rfl) (by first | assumption | omega | trivial | rfl) (by first | assumption | omega | trivial | rfl) (by first | assumption | omega | trivial | rfl)).mono ?_
    rintro r bx ⟨rfl, l', n, rfl, hl', hall⟩
    refine sg ?_
    refine nx ?_
    refine rt (sg ?_)
    refine f2 (g := sg ?_)
    refine ⟨_, _, rfl, rfl, ?_⟩
    refine ax [] ⟨rfl, l', 0, n, nilC, nilC, rfl, by decide, by decide, rfl, rfl, hl', fun t h => ?_⟩
    rcases hall t h with ⟨f1, f2, f3, f4⟩ | h
    · exact ⟨i, h0, h1, f1.trans (he.trans hnm.symm), f2.trans e2, fun r h => e3 r (f4 r h), by omega⟩
    · exact ht t h
set_option maxHeartbeats 8000000 in
theorem c16_9 (l : List Tb) (hl : l.length ≤ 100) (ht : ∀ t ∈ l, okT t) (i : Int) (h0 : 0 ≤ i) (h1 : i < 3) (v : Int) (ag : List Ae) (ha : ∀ x ∈ ag, okAg x) (hg : ag.length ≤ 4) : PC Tryd.prog 16 [.one (.c (rowA 3 cTb l)), .agg (lc (cOp ⟨9, ⟨#[]⟩, [], [], pr0, quA (nameS i) v ag⟩))] [] (doneR l.length) := by
  have hn := okN_name i h0 h1
  generalize hnm : nameS i = nm at *
  refine enter (rs := [.tmp 4, .cell 5 50]) mx Tryd.func16 Tryd.ntmps16 fun Q0 hQ0 => ?_
  simp only [pr0, qu0, lc_op]
  refine sq fun _ _ => ?_
  refine rg (sg ?_)
  refine nx ?_
  refine sq fun _ _ => ?_
  refine rg (sg ?_)
  refine nx ?_
  refine sq fun _ _ => ?_
  refine sq fun _ _ => ?_
  refine rg (sg ?_)
  refine nx ?_
  refine bl ?_
  refine sq fun _ _ => ?_
  refine sq fun _ _ => ?_
  refine rg (sg ?_)
  refine nx ?_
  refine cf (hy := ?_)
  refine rg (sg ?_)
  refine nx ?_
  refine cf (hy := ?_)
  refine sq fun _ _ => ?_
  refine rg (sg ?_)
  refine nx ?_
  refine cf (hy := ?_)
  refine sq fun _ _ => ?_
  refine rg (sg ?_)
  refine nx ?_
  refine ct (hx := ?_)
  refine rg (sg ?_)
  refine nx ?_
  refine sq fun _ _ => ?_
  refine sq fun _ _ => ?_
  refine rg (sg ?_)
  refine cl [] (sg ?_)
  refine (c40 _ (by first | assumption | omega | trivial | rfl)).mono ?_
  rintro r bx ⟨rfl, rfl⟩
  refine sg ?_
  refine nx ?_
  refine cf (hy := ?_)
  refine sk (sg ?_)
  refine nx ?_
  refine sq fun _ _ => ?_
  refine rg (sg ?_)
  refine cl [] (sg ?_)
  refine (c42 _ _ (by first | assumption | omega | trivial | rfl)).mono ?_
  rintro r bx ⟨rfl, (⟨rfl, hno⟩ | ⟨j, hj, rfl, he, -⟩)⟩
  · refine sg ?_
    refine nx ?_
    refine sq fun _ _ => ?_
    refine sq fun _ _ => ?_
    refine rg (sg ?_)
    refine nx ?_
    refine cf (hy := ?_)
    refine sk (sg ?_)
    refine nx ?_
    refine sq fun _ _ => ?_
    refine sq fun _ _ => ?_
    refine rg (sg ?_)
    refine nx ?_
    refine ct (hx := ?_)
    refine sq fun _ _ => ?_
    refine rg (sg ?_)
    refine cl [] (sg ?_)
    refine (c41 _ _).mono ?_
    rintro r bx ⟨rfl, rfl⟩
    refine sg ?_
    refine nx ?_
    refine rt (sg ?_)
    refine f2 (g := sg ?_)
    refine ⟨_, _, rfl, rfl, ?_⟩
    exact ax [] ⟨rfl, l, 5, 0, nilC, nilC, rfl, by decide, by decide, rfl, rfl, by omega, ht⟩
  · refine sg ?_
    obtain ⟨e2, e3, e4⟩ := tab_at _ (ht l[j] (List.getElem_mem hj)) i h0 h1 (he.trans hnm.symm)
    have hK : okK l[j].cols := by rw [e2]; exact okK_cols i h0 h1
    have hA : okA l[j].cols := by rw [e2]; exact okA_cols i h0 h1
    refine nx ?_
    refine sq fun _ _ => ?_
    refine sq fun _ _ => ?_
    refine rg (sg ?_)
    refine nx ?_
    refine cf (hy := ?_)
    refine sk (sg ?_)
    refine nx ?_
    refine sq fun _ _ => ?_
    refine sq fun _ _ => ?_
    refine rg (sg ?_)
    refine nx ?_
    refine cf (hy := ?_)
    refine sk (sg ?_)
    refine nx ?_
    refine sq fun _ _ => ?_
    refine rg (sg ?_)
    refine and_assoc.2 ?_
    refine And.intro (by first | assumption | omega | rfl | trivial) ?_
    refine And.intro (by first | assumption | omega | rfl | trivial) ?_
    simp (disch := omega) only [el_at, ml_Ce]
    refine sg ?_
    refine nx ?_
    refine sq fun _ _ => ?_
    refine sq fun _ _ => ?_
    refine rg (sg ?_)
    refine nx ?_
    refine bl ?_
    refine sq fun _ _ => ?_
    refine rg (sg ?_)
    refine nx ?_
    refine cf (hy := ?_)
    refine sq fun _ _ => ?_
    refine rg (sg ?_)
    refine nx ?_
    refine cf (hy := ?_)
    refine sq fun _ _ => ?_
    refine rg (sg ?_)
    refine nx ?_
    refine cf (hy := ?_)
    refine sq fun _ _ => ?_
    refine rg (sg ?_)
    refine nx ?_
    refine ct (hx := ?_)
    refine sq fun _ _ => ?_
    refine rg (sg ?_)
    refine cl [] (sg ?_)
    refine (c47 l[j].cols nm v ag l[j].rows hn hA hK ha hg (by omega) (fun r h => by rw [e2]; exact e3 r h)).mono ?_
    rintro r bx ⟨⟨o2, rfl⟩, rfl⟩
    refine sg ?_
    refine nx ?_
    refine sq fun _ _ => ?_
    refine sq fun _ _ => ?_
    refine rg (sg ?_)
    refine nx ?_
    refine cf (hy := ?_)
    refine sk (sg ?_)
    refine nx ?_
    refine sq fun _ _ => ?_
    refine rg (sg ?_)
    refine cl [] (sg ?_)
    refine (c48 _ _ _ _ (by first | assumption | omega | trivial | rfl) (by first | assumption | omega | trivial | rfl) (by first | assumption | omega | trivial | rfl) (by first | assumption | omega | trivial | rfl) (by first | assumption | omega | trivial | rfl)).mono ?_
    rintro r bx ⟨⟨o3, rfl⟩, rfl⟩
    refine sg ?_
    refine nx ?_
    refine rt (sg ?_)
    refine f2 (g := sg ?_)
    refine ⟨_, _, rfl, rfl, ?_⟩
    exact ax [] ⟨rfl, l, 0, _, _, _, rfl, by decide, by decide, rfl, rfl, by omega, ht⟩
set_option maxHeartbeats 8000000 in
theorem c16_x (l : List Tb) (hl : l.length ≤ 100) (ht : ∀ t ∈ l, okT t) (i : Int) (h0 : 0 ≤ i) (h1 : i < 3) (k : Int) (hk : k = 5 ∨ k = 8) : PC Tryd.prog 16 [.one (.c (rowA 3 cTb l)), .agg (lc (cOp ⟨k, nameS i, [], [], pr0, qu0⟩))] [] (doneR l.length) := by
  have hn := okN_name i h0 h1
  generalize hnm : nameS i = nm at *
  rcases hk with rfl | rfl
  · refine enter (rs := [.tmp 4, .cell 5 50]) mx Tryd.func16 Tryd.ntmps16 fun Q0 hQ0 => ?_
    simp only [pr0, qu0, lc_op]
    refine sq fun _ _ => ?_
    refine rg (sg ?_)
    refine nx ?_
    refine sq fun _ _ => ?_
    refine rg (sg ?_)
    refine nx ?_
    refine sq fun _ _ => ?_
    refine sq fun _ _ => ?_
    refine rg (sg ?_)
    refine nx ?_
    refine bl ?_
    refine sq fun _ _ => ?_
    refine sq fun _ _ => ?_
    refine rg (sg ?_)
    refine nx ?_
    refine cf (hy := ?_)
    refine rg (sg ?_)
    refine nx ?_
    refine cf (hy := ?_)
    refine sq fun _ _ => ?_
    refine rg (sg ?_)
    refine nx ?_
    refine cf (hy := ?_)
    refine sq fun _ _ => ?_
    refine rg (sg ?_)
    refine nx ?_
    refine cf (hy := ?_)
    refine sk (sg ?_)
    refine nx ?_
    refine sq fun _ _ => ?_
    refine sq fun _ _ => ?_
    refine rg (sg ?_)
    refine cl [] (sg ?_)
    refine (c40 _ (by first | assumption | omega | trivial | rfl)).mono ?_
    rintro r bx ⟨rfl, rfl⟩
    refine sg ?_
    refine nx ?_
    refine cf (hy := ?_)
    refine sk (sg ?_)
    refine nx ?_
    refine sq fun _ _ => ?_
    refine rg (sg ?_)
    refine cl [] (sg ?_)
    refine (c42 _ _ (by first | assumption | omega | trivial | rfl)).mono ?_
    rintro r bx ⟨rfl, (⟨rfl, hno⟩ | ⟨j, hj, rfl, he, -⟩)⟩
    · refine sg ?_
      refine nx ?_
      refine sq fun _ _ => ?_
      refine sq fun _ _ => ?_
      refine rg (sg ?_)
      refine nx ?_
      refine cf (hy := ?_)
      refine sk (sg ?_)
      refine nx ?_
      refine sq fun _ _ => ?_
      refine sq fun _ _ => ?_
      refine rg (sg ?_)
      refine nx ?_
      refine ct (hx := ?_)
      refine sq fun _ _ => ?_
      refine rg (sg ?_)
      refine cl [] (sg ?_)
      refine (c41 _ _).mono ?_
      rintro r bx ⟨rfl, rfl⟩
      refine sg ?_
      refine nx ?_
      refine rt (sg ?_)
      refine f2 (g := sg ?_)
      refine ⟨_, _, rfl, rfl, ?_⟩
      exact ax [] ⟨rfl, l, 5, 0, nilC, nilC, rfl, by decide, by decide, rfl, rfl, by omega, ht⟩
    · refine sg ?_
      refine nx ?_
      refine sq fun _ _ => ?_
      refine sq fun _ _ => ?_
      refine rg (sg ?_)
      refine nx ?_
      refine cf (hy := ?_)
      refine sk (sg ?_)
      refine nx ?_
      refine sq fun _ _ => ?_
      refine sq fun _ _ => ?_
      refine rg (sg ?_)
      refine nx ?_
      refine cf (hy := ?_)
      refine sk (sg ?_)
      refine nx ?_
      refine sq fun _ _ => ?_
      refine rg (sg ?_)
      refine and_assoc.2 ?_
      refine And.intro (by first | assumption | omega | rfl | trivial) ?_
      refine And.intro (by first | assumption | omega | rfl | trivial) ?_
      simp (disch := omega) only [el_at, ml_Ce]
      refine sg ?_
      refine nx ?_
      refine sq fun _ _ => ?_
      refine sq fun _ _ => ?_
      refine rg (sg ?_)
      refine nx ?_
      refine bl ?_
      refine sq fun _ _ => ?_
      refine rg (sg ?_)
      refine nx ?_
      refine cf (hy := ?_)
      refine sq fun _ _ => ?_
      refine rg (sg ?_)
      refine nx ?_
      refine cf (hy := ?_)
      refine sq fun _ _ => ?_
      refine rg (sg ?_)
      refine nx ?_
      refine cf (hy := ?_)
      refine sq fun _ _ => ?_
      refine rg (sg ?_)
      refine nx ?_
      refine cf (hy := ?_)
      refine sk (sg ?_)
      refine nx ?_
      refine sq fun _ _ => ?_
      refine rg (sg ?_)
      refine nx ?_
      refine rt ?_
      refine f2 (g := sg ?_)
      refine ⟨_, _, rfl, rfl, ?_⟩
      exact ax [] ⟨rfl, l, 0, 0, nilC, nilC, rfl, by decide, by decide, rfl, rfl, by omega, ht⟩
  · refine enter (rs := [.tmp 4, .cell 5 50]) mx Tryd.func16 Tryd.ntmps16 fun Q0 hQ0 => ?_
    simp only [pr0, qu0, lc_op]
    refine sq fun _ _ => ?_
    refine rg (sg ?_)
    refine nx ?_
    refine sq fun _ _ => ?_
    refine rg (sg ?_)
    refine nx ?_
    refine sq fun _ _ => ?_
    refine sq fun _ _ => ?_
    refine rg (sg ?_)
    refine nx ?_
    refine bl ?_
    refine sq fun _ _ => ?_
    refine sq fun _ _ => ?_
    refine rg (sg ?_)
    refine nx ?_
    refine cf (hy := ?_)
    refine rg (sg ?_)
    refine nx ?_
    refine cf (hy := ?_)
    refine sq fun _ _ => ?_
    refine rg (sg ?_)
    refine nx ?_
    refine cf (hy := ?_)
    refine sq fun _ _ => ?_
    refine rg (sg ?_)
    refine nx ?_
    refine cf (hy := ?_)
    refine sk (sg ?_)
    refine nx ?_
    refine sq fun _ _ => ?_
    refine sq fun _ _ => ?_
    refine rg (sg ?_)
    refine cl [] (sg ?_)
    refine (c40 _ (by first | assumption | omega | trivial | rfl)).mono ?_
    rintro r bx ⟨rfl, rfl⟩
    refine sg ?_
    refine nx ?_
    refine cf (hy := ?_)
    refine sk (sg ?_)
    refine nx ?_
    refine sq fun _ _ => ?_
    refine rg (sg ?_)
    refine cl [] (sg ?_)
    refine (c42 _ _ (by first | assumption | omega | trivial | rfl)).mono ?_
    rintro r bx ⟨rfl, (⟨rfl, hno⟩ | ⟨j, hj, rfl, he, -⟩)⟩
    · refine sg ?_
      refine nx ?_
      refine sq fun _ _ => ?_
      refine sq fun _ _ => ?_
      refine rg (sg ?_)
      refine nx ?_
      refine cf (hy := ?_)
      refine sk (sg ?_)
      refine nx ?_
      refine sq fun _ _ => ?_
      refine sq fun _ _ => ?_
      refine rg (sg ?_)
      refine nx ?_
      refine ct (hx := ?_)
      refine sq fun _ _ => ?_
      refine rg (sg ?_)
      refine cl [] (sg ?_)
      refine (c41 _ _).mono ?_
      rintro r bx ⟨rfl, rfl⟩
      refine sg ?_
      refine nx ?_
      refine rt (sg ?_)
      refine f2 (g := sg ?_)
      refine ⟨_, _, rfl, rfl, ?_⟩
      exact ax [] ⟨rfl, l, 5, 0, nilC, nilC, rfl, by decide, by decide, rfl, rfl, by omega, ht⟩
    · refine sg ?_
      refine nx ?_
      refine sq fun _ _ => ?_
      refine sq fun _ _ => ?_
      refine rg (sg ?_)
      refine nx ?_
      refine cf (hy := ?_)
      refine sk (sg ?_)
      refine nx ?_
      refine sq fun _ _ => ?_
      refine sq fun _ _ => ?_
      refine rg (sg ?_)
      refine nx ?_
      refine cf (hy := ?_)
      refine sk (sg ?_)
      refine nx ?_
      refine sq fun _ _ => ?_
      refine rg (sg ?_)
      refine and_assoc.2 ?_
      refine And.intro (by first | assumption | omega | rfl | trivial) ?_
      refine And.intro (by first | assumption | omega | rfl | trivial) ?_
      simp (disch := omega) only [el_at, ml_Ce]
      refine sg ?_
      refine nx ?_
      refine sq fun _ _ => ?_
      refine sq fun _ _ => ?_
      refine rg (sg ?_)
      refine nx ?_
      refine bl ?_
      refine sq fun _ _ => ?_
      refine rg (sg ?_)
      refine nx ?_
      refine cf (hy := ?_)
      refine sq fun _ _ => ?_
      refine rg (sg ?_)
      refine nx ?_
      refine cf (hy := ?_)
      refine sq fun _ _ => ?_
      refine rg (sg ?_)
      refine nx ?_
      refine cf (hy := ?_)
      refine sq fun _ _ => ?_
      refine rg (sg ?_)
      refine nx ?_
      refine cf (hy := ?_)
      refine sk (sg ?_)
      refine nx ?_
      refine sq fun _ _ => ?_
      refine rg (sg ?_)
      refine nx ?_
      refine rt ?_
      refine f2 (g := sg ?_)
      refine ⟨_, _, rfl, rfl, ?_⟩
      exact ax [] ⟨rfl, l, 0, 0, nilC, nilC, rfl, by decide, by decide, rfl, rfl, by omega, ht⟩
set_option maxHeartbeats 8000000 in
theorem c16_6 (l : List Tb) (ht : ∀ t ∈ l, okT t) : PC Tryd.prog 16 [.one (.c (rowA 3 cTb l)), .agg (lc (cOp ⟨6, ⟨#[]⟩, [], [], pr0, qu0⟩))] [] (doneR l.length) := by
  refine enter (rs := [.tmp 4, .cell 5 50]) mx Tryd.func16 Tryd.ntmps16 fun Q0 hQ0 => ?_
  simp only [pr0, qu0, lc_op]
  refine sq fun _ _ => ?_
  refine rg (sg ?_)
  refine nx ?_
  refine sq fun _ _ => ?_
  refine rg (sg ?_)
  refine nx ?_
  refine sq fun _ _ => ?_
  refine sq fun _ _ => ?_
  refine rg (sg ?_)
  refine nx ?_
  refine bl ?_
  refine sq fun _ _ => ?_
  refine sq fun _ _ => ?_
  refine rg (sg ?_)
  refine nx ?_
  refine ct (hx := ?_)
  refine sk (sg ?_)
  refine nx ?_
  refine ct (hx := ?_)
  refine sq fun _ _ => ?_
  refine rg (sg ?_)
  refine nx ?_
  refine rt (sg ?_)
  refine f2 (g := sg ?_)
  refine ⟨_, _, rfl, rfl, ?_⟩
  exact ax [] ⟨rfl, l, 0, 0, nilC, nilC, rfl, by decide, by decide, rfl, rfl, by omega, ht⟩
theorem c16 (l : List Tb) (hl : l.length ≤ 100) (ht : ∀ t ∈ l, okT t) (o : Opn) (ho : okO o) : PC Tryd.prog 16 [.one (.c (rowA 3 cTb l)), .agg (lc (cOp o))] [] (doneR l.length) := by
  obtain ⟨i, h0, h1, h⟩ := ho
  rcases h with rfl | ⟨rows, h2, h3, rfl⟩ | ⟨v, rfl⟩ | ⟨v, ag, h2, h3, rfl⟩ | rfl | rfl | rfl
  · exact c16_1 l hl ht i h0 h1
  · exact c16_3 l hl ht i h0 h1 rows h2 h3
  · exact c16_4 l hl ht i h0 h1 v
  · exact c16_9 l hl ht i h0 h1 v ag h2 h3
  · exact c16_x l hl ht i h0 h1 5 (.inl rfl)
  · exact c16_6 l ht
  · exact c16_x l hl ht i h0 h1 8 (.inr rfl)

end Go.Proofs.YtdedmhmomoejkaaDoor.V
