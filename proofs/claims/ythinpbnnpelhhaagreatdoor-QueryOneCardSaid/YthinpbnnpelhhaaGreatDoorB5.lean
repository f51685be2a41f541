import Derived.Test.YthinpbnnpelhhaaGreatDoorB4
namespace Go.Proofs.YthinpbnnpelhhaaGreatDoor.V
open Go Go.RowKit Go.Proofs.YthinpbnnpelhhaaGreatDoorW.PrintLast
open Go.Proofs
set_option linter.unusedVariables false
set_option linter.unusedSimpArgs false
attribute [local irreducible] awp
set_option maxRecDepth 100000
/-- Is nothing there but what its kind names? -/
def FlP (p : Pr) : Prop := p.col = (if p.op = 2 ∨ p.op = 3 ∨ p.op = 4 then p.col else ⟨#[]⟩) ∧ p.cmp = (if p.op = 2 then p.cmp else 0) ∧ (p.val.nl = (if p.op = 2 then p.val.nl else false) ∧ p.val.i = (if p.op = 2 then p.val.i else 0) ∧ p.val.s = (if p.op = 2 then p.val.s else ⟨#[]⟩)) ∧ p.kind = (if p.op = 2 then p.kind else 0) ∧ p.pat = (if p.op = 4 then p.pat else ⟨#[]⟩)
instance (p : Pr) : Decidable (FlP p) := by unfold FlP; infer_instance
theorem flatB_bare (p : Pr) : flatB p.op p.col p.cmp p.val.nl p.val.i p.val.s p.kind p.pat p.op (if p.op = 2 ∨ p.op = 3 ∨ p.op = 4 then p.col else ⟨#[]⟩) (if p.op = 2 then p.cmp else 0) (if p.op = 2 then p.val.nl else false) (if p.op = 2 then p.val.i else 0) (if p.op = 2 then p.val.s else ⟨#[]⟩) (if p.op = 2 then p.kind else 0) (if p.op = 4 then p.pat else ⟨#[]⟩) = decide (FlP p) := by
  unfold flatB FlP
  simp only [true_and]
/-- Are its own fields such as its kind wants them? -/
def RsP (p : Pr) : Prop := p.op = 1 ∨ (p.op = 2 ∧ nameB p.col = true ∧ 1 ≤ p.cmp ∧ p.cmp ≤ 6 ∧ MayC p.kind false p.val) ∨ (p.op = 3 ∧ nameB p.col = true) ∨ (p.op = 4 ∧ nameB p.col = true ∧ p.pat.size ≤ 40) ∨ (5 ≤ p.op ∧ p.op ≤ 7)
instance (p : Pr) : Decidable (RsP p) := by unfold RsP; infer_instance
theorem flds_fin {p : Pr} {b : Bool} (h1 : FlP p) (hb : b = true ↔ RsP p) : b = decide (FlP p ∧ RsP p) := by
  rw [Bool.eq_iff_iff, decide_eq_true_eq, hb]
  exact ⟨fun h => ⟨h1, h⟩, fun h => h.2⟩
set_option maxHeartbeats 8000000 in
theorem c49 (p : Pr) (hc : p.col.size ≤ 1000) : PC Tryz.prog 49 [aPr p] [] (fun r bx => r = A.bool (decide (FlP p ∧ RsP p)) ∧ bx = []) := by
  have hz : ((p.pat.size : Int) ≤ 40) ↔ p.pat.size ≤ 40 := by omega
  refine enter (rs := [.tmp 2]) mx Tryz.func49 Tryz.ntmps49 fun Q0 hQ0 => ?_
  refine sq fun _ _ => ?_
  refine rg (sg ?_)
  refine nx ?_
  refine sq fun _ _ => ?_
  refine sq fun _ _ => ?_
  refine dr [.take 0, .take 1, .one 2, .one 3, .pure 4] [] (sg ?_)
  refine cl [] (sg ?_)
  refine (c68 _ _ _ _ _ _ _ _ _).mono ?_
  rintro r bx ⟨rfl, rfl⟩
  refine sg ?_
  refine cl [] (sg ?_)
  refine (c40 _ _ _ _ _ _ _ _ _ _ _ _ _ _ _ _ _ _).mono ?_
  rintro r bx ⟨rfl, rfl⟩
  refine sg ?_
  refine nx ?_
  refine cb (fun h1 => ?_) (fun h1 => ?_)
  · rw [flatB_bare, decide_eq_false_iff_not] at h1
    refine sq fun _ _ => ?_
    refine rg (sg ?_)
    refine nx ?_
    refine rt (sg ?_)
    refine f1 (g := sg ?_)
    exact ax [] ⟨congrArg A.bool (decide_eq_false fun h => h1 h.1).symm, rfl⟩
  · rw [flatB_bare, decide_eq_false_iff_not, Decidable.not_not] at h1
    refine sk (sg ?_)
    refine nx ?_
    refine sq fun _ _ => ?_
    refine sq fun _ _ => ?_
    refine rg (sg ?_)
    refine nx ?_
    refine bl ?_
    refine sq fun _ _ => ?_
    refine rg (sg ?_)
    refine nx ?_
    refine cb (fun h2 => ?_) (fun h2 => ?_)
    · refine sq fun _ _ => ?_
      refine rg (sg ?_)
      refine nx ?_
      refine rt (sg ?_)
      refine f1 (g := sg ?_)
      refine ax [] ⟨congrArg A.bool (flds_fin h1 ?_), rfl⟩
      simp [RsP, and_assoc, h2]
    · refine sq fun _ _ => ?_
      refine rg (sg ?_)
      refine nx ?_
      refine cb (fun h3 => ?_) (fun h3 => ?_)
      · refine sq fun _ _ => ?_
        refine rgs 3 (sgt ?_)
        refine cl [] (sg ?_)
        refine (c27 _ (by first | assumption | omega | trivial | rfl)).mono ?_
        rintro r bx ⟨rfl, rfl⟩
        refine sg ?_
        refine hr 16 (sgt ?_)
        simp only [undef]
        refine ⟨fun hg => ⟨hg, ?_⟩, fun hg => ?_⟩
        · refine cl [] (sg ?_)
          refine (c69 _ _ _ _ _).mono ?_
          rintro r bx ⟨rfl, rfl⟩
          refine sg ?_
          refine hrl (sg ?_)
          refine nx ?_
          refine rt (sg ?_)
          refine f1 (g := sg ?_)
          rw [Bool.and_eq_true, Bool.and_eq_true, decide_eq_true_eq, decide_eq_true_eq] at hg
          refine ax [] ⟨congrArg A.bool (flds_fin h1 ?_), rfl⟩
          simp [RsP, and_assoc, h3, hg.1.1, hg.1.2, hg.2]
        · refine hrl ?_
          simp only [go_sem, Nat.reduceAdd, Nat.reduceSub, Nat.reduceMul, Nat.reduceLT, Nat.reduceLeDiff, Nat.reduceEqDiff, reduceIte, reduceCtorEq, if_true, if_false, Int.reduceEq, Int.reduceLT, Int.reduceLE, Int.reduceAdd, Int.reduceSub, Int.reduceMul, Int.reduceNeg, Int.reduceToNat, decide_true, decide_false, Nat.reduceBEq, hg]
          refine nx ?_
          refine rt (sg ?_)
          refine f1 (g := sg ?_)
          refine ax [] ⟨congrArg A.bool (flds_fin h1 ?_), rfl⟩
          simp only [Bool.false_eq_true, false_iff]
          intro hr
          rcases hr with hr | hr | hr | hr | hr
          · omega
          · obtain ⟨_, r1, r2, r3, _⟩ := hr
            rw [r1, decide_eq_true r2, decide_eq_true r3] at hg
            cases hg
          · omega
          · omega
          · omega
      · refine sq fun _ _ => ?_
        refine rg (sg ?_)
        refine nx ?_
        refine cb (fun h4 => ?_) (fun h4 => ?_)
        · refine sq fun _ _ => ?_
          refine rg (sg ?_)
          refine cl [] (sg ?_)
          refine (c27 _ (by first | assumption | omega | trivial | rfl)).mono ?_
          rintro r bx ⟨rfl, rfl⟩
          refine sg ?_
          refine nx ?_
          refine rt (sg ?_)
          refine f1 (g := sg ?_)
          refine ax [] ⟨congrArg A.bool (flds_fin h1 ?_), rfl⟩
          simp [RsP, and_assoc, h4]
        · refine sq fun _ _ => ?_
          refine rg (sg ?_)
          refine nx ?_
          refine cb (fun h5 => ?_) (fun h5 => ?_)
          · refine sq fun _ _ => ?_
            refine rg (sg ?_)
            refine cl [] (sg ?_)
            refine (c27 _ (by first | assumption | omega | trivial | rfl)).mono ?_
            rintro r bx ⟨rfl, rfl⟩
            refine sg ?_
            refine nx ?_
            refine rt (sg ?_)
            refine f1 (g := sg ?_)
            refine ax [] ⟨congrArg A.bool (flds_fin h1 ?_), rfl⟩
            simp [RsP, and_assoc, h5, hz]
          · refine sk (sg ?_)
            refine nx ?_
            refine sq fun _ _ => ?_
            refine rg (sg ?_)
            refine nx ?_
            refine rt ?_
            refine f1 (g := sg ?_)
            refine ax [] ⟨congrArg A.bool (flds_fin h1 ?_), rfl⟩
            simp [RsP, and_assoc, h2, h3, h4, h5]
theorem c71 (x p : Pr) : PC Tryz.prog 71 [aPr x, .one (.ptr 0 0)] [.var [xI p.op, xS p.col, xI p.cmp, xB p.val.nl, xI p.val.i, xS p.val.s, xI p.kind, xS p.pat, .c (.sl p.kids.length 9 (elemsOf (p.kids.map cPr)))] 27] (fun r bx => r = A.bool (decide (x.op = p.op)) ∧ bx = [.var [xI p.op, xS p.col, xI p.cmp, xB p.val.nl, xI p.val.i, xS p.val.s, xI p.kind, xS p.pat, .c (.sl p.kids.length 9 (elemsOf (p.kids.map cPr)))] 27]) := by
  refine enter (rs := [.tmp 3]) mx Tryz.func71 Tryz.ntmps71 fun Q0 hQ0 => ?_
  refine sq fun _ _ => ?_
  refine rg (sg ?_)
  refine nx ?_
  refine sq fun _ _ => ?_
  refine rg (sg ?_)
  refine nx ?_
  refine rt ?_
  refine f1 (g := sg ?_)
  exact ax [] ⟨rfl, rfl⟩
theorem c82 (l : List Pr) (p : Pr) (hl : l.length ≤ 1000) : PC Tryz.prog 82 [xRow l.length 9 (elemsOf (l.map cPr)), .one (.fn 71 [0])] [.var [xI p.op, xS p.col, xI p.cmp, xB p.val.nl, xI p.val.i, xS p.val.s, xI p.kind, xS p.pat, .c (.sl p.kids.length 9 (elemsOf (p.kids.map cPr)))] 27] (fun r bx => (∃ k : Int, r = A.int .i64 k ∧ (0 ≤ k ↔ ∃ x ∈ l, x.op = p.op)) ∧ bx = [.var [xI p.op, xS p.col, xI p.cmp, xB p.val.nl, xI p.val.i, xS p.val.s, xI p.kind, xS p.pat, .c (.sl p.kids.length 9 (elemsOf (p.kids.map cPr)))] 27]) := by
  refine enter (rs := [.tmp 4]) mx Tryz.func82 Tryz.ntmps82 fun Q0 hQ0 => ?_
  refine sq fun _ _ => ?_
  refine rg (sg ?_)
  refine nx ?_
  refine sq fun _ _ => ?_
  refine sq fun _ _ => ?_
  refine rg (sg ?_)
  refine nx ?_
  refine bl ?_
  refine lp [0, 1, 7, 8] [] (fun k σ => ∃ i : Nat, k = l.length - i ∧ i ≤ l.length ∧ (∀ (j : Nat) (h : j < l.length), j < i → l[j].op ≠ p.op) ∧ σ = ⟨19, 1, [(0, xRow l.length 9 (elemsOf (List.map cPr l))), (1, A.one (L.fn 71 [0])), (7, A.int .i64 l.length), (8, A.int .i64 i)], [.var [xI p.op, xS p.col, xI p.cmp, xB p.val.nl, xI p.val.i, xS p.val.s, xI p.kind, xS p.pat, .c (.sl p.kids.length 9 (elemsOf (p.kids.map cPr)))] 27]⟩) l.length ?_ ?_
  · exact ⟨0, by omega, by omega, fun j h h2 => absurd h2 (Nat.not_lt_zero _), keq⟩
  · rintro k σ' ⟨i, hk, hi, hw, rfl⟩ Q1 hQ1
    refine sq fun _ _ => ?_
    refine rg (sg ?_)
    refine nx ?_
    refine sq fun _ _ => ?_
    refine cb (fun h => ?_) (fun h => ?_)
    · have hin : i < l.length := by omega
      have hwi : IntKind.i64.wrap ((i : Int) + 1) = ((i + 1 : Nat) : Int) := wrap_succ (by omega)
      have he := el_at (f := cPr) hin
      refine sk (sg ?_)
      refine nx ?_
      refine sq fun _ _ => ?_
      refine bl ?_
      refine sq fun _ _ => ?_
      refine rg (sg ?_)
      refine nx ?_
      refine sq fun _ _ => ?_
      refine rg (sg ?_)
      refine and_assoc.2 ?_
      refine And.intro (by first | assumption | omega | rfl | trivial) ?_
      refine And.intro (by first | assumption | omega | rfl | trivial) ?_
      refine cl [0] (sg ?_)
      simp (disch := omega) only [el_at]
      refine sg ?_
      refine (c71 _ _).mono ?_
      rintro r bx ⟨rfl, rfl⟩
      refine sg ?_
      refine nx ?_
      refine cb (fun h2 => ?_) (fun h2 => ?_)
      · refine sq fun _ _ => ?_
        refine rg (sg ?_)
        refine nx ?_
        refine rt (sg ?_)
        refine lr (g := sg ?_)
        refine f1 (g := sg ?_)
        exact ax [] ⟨⟨i, rfl, fun _ => ⟨l[i], List.getElem_mem hin, h2⟩, fun _ => by omega⟩, rfl⟩
      · have hw2 : ∀ (j : Nat) (h : j < l.length), j < i + 1 → l[j].op ≠ p.op := by
          intro j hj h3
          by_cases hji : j = i
          · subst hji
            exact h2
          · exact hw j hj (by omega)
        refine sk (sg ?_)
        refine nx ?_
        refine rg (sg ?_)
        simp (disch := omega) only [wrap_succ]
        refine ln (l.length - (i + 1)) [] ?_ ?_
        · omega
        exact ⟨i + 1, by omega, by omega, hw2, keq⟩
    · refine xt (sg ?_)
      refine lx (g := sg ?_)
      refine nx ?_
      refine sq fun _ _ => ?_
      refine rg (sg ?_)
      refine nx ?_
      refine rt ?_
      refine f1 (g := sg ?_)
      refine ax [] ⟨⟨-1, rfl, fun h => by omega, fun ⟨x, hx, h3⟩ => ?_⟩, rfl⟩
      obtain ⟨j, hj, rfl⟩ := List.getElem_of_mem hx
      exact absurd h3 (hw j hj (by omega))
theorem c70 (l : List Pr) (p : Pr) (hl : l.length ≤ 1000) : PC Tryz.prog 70 [xRow l.length 9 (elemsOf (l.map cPr)), .one (.fn 71 [0])] [.var [xI p.op, xS p.col, xI p.cmp, xB p.val.nl, xI p.val.i, xS p.val.s, xI p.kind, xS p.pat, .c (.sl p.kids.length 9 (elemsOf (p.kids.map cPr)))] 27] (fun r bx => r = A.bool (l.any fun x => decide (x.op = p.op)) ∧ bx = [.var [xI p.op, xS p.col, xI p.cmp, xB p.val.nl, xI p.val.i, xS p.val.s, xI p.kind, xS p.pat, .c (.sl p.kids.length 9 (elemsOf (p.kids.map cPr)))] 27]) := by
  refine enter (rs := [.tmp 4]) mx Tryz.func70 Tryz.ntmps70 fun Q0 hQ0 => ?_
  refine sq fun _ _ => ?_
  refine rg (sg ?_)
  refine nx ?_
  refine sq fun _ _ => ?_
  refine rg (sg ?_)
  refine cl [0] (sg ?_)
  refine (c82 _ _ (by first | assumption | omega | trivial | rfl)).mono ?_
  rintro r bx ⟨⟨n, rfl, hn⟩, rfl⟩
  refine sg ?_
  refine nx ?_
  refine rt ?_
  refine f1 (g := sg ?_)
  refine ax [] ⟨congrArg A.bool ?_, rfl⟩
  rw [Bool.eq_iff_iff, decide_eq_true_eq, List.any_eq_true, hn]
  simp
/-- May there be so many kids, and such? -/
def kidB (p : Pr) : Bool := if p.op = 6 ∨ p.op = 7 then decide (2 ≤ p.kids.length) && !(p.kids.any fun x => decide (x.op = p.op)) else if p.op = 5 then decide (p.kids.length = 1) else decide (p.kids.length = 0)
set_option maxHeartbeats 8000000 in
theorem c50 (p : Pr) (hl : p.kids.length ≤ 1000) : PC Tryz.prog 50 [aPr p] [] (fun r bx => r = A.bool (kidB p) ∧ bx = []) := by
  refine enter (rs := [.tmp 2]) mx Tryz.func50 Tryz.ntmps50 fun Q0 hQ0 => ?_
  refine sq fun _ _ => ?_
  refine rg (sg ?_)
  refine nx ?_
  refine sq fun _ _ => ?_
  refine bl ?_
  refine sq fun _ _ => ?_
  refine rg (sg ?_)
  refine cl [] (sg ?_)
  refine (c64 _ _ _ _ _ _ _ _ _).mono ?_
  rintro r bx ⟨rfl, rfl⟩
  refine sg ?_
  refine nx ?_
  refine cb (fun h1 => ?_) (fun h1 => ?_)
  · refine sq fun _ _ => ?_
    by_cases hk : (2 : Int) ≤ (p.kids.length : Int)
    · refine rg ?_
      simp only [go_sem, Nat.reduceAdd, Nat.reduceSub, Nat.reduceMul, Nat.reduceLT, Nat.reduceLeDiff, Nat.reduceEqDiff, reduceIte, reduceCtorEq, if_true, if_false, Int.reduceEq, Int.reduceLT, Int.reduceLE, Int.reduceAdd, Int.reduceSub, Int.reduceMul, Int.reduceNeg, Int.reduceToNat, decide_true, decide_false, Nat.reduceBEq, hk]
      refine cl [0] (sg ?_)
      refine (c70 _ _ (by first | assumption | omega | trivial | rfl)).mono ?_
      rintro r bx ⟨rfl, rfl⟩
      refine sg ?_
      refine nx ?_
      refine rt (sg ?_)
      refine f1 (g := sg ?_)
      refine ax [] ⟨congrArg A.bool ?_, rfl⟩
      unfold kidB
      rw [if_pos h1, decide_eq_true (show 2 ≤ p.kids.length by omega), Bool.true_and]
    · refine rg ?_
      simp only [go_sem, Nat.reduceAdd, Nat.reduceSub, Nat.reduceMul, Nat.reduceLT, Nat.reduceLeDiff, Nat.reduceEqDiff, reduceIte, reduceCtorEq, if_true, if_false, Int.reduceEq, Int.reduceLT, Int.reduceLE, Int.reduceAdd, Int.reduceSub, Int.reduceMul, Int.reduceNeg, Int.reduceToNat, decide_true, decide_false, Nat.reduceBEq, hk]
      refine nx ?_
      refine rt (sg ?_)
      refine f1 (g := sg ?_)
      refine And.intro (by first | assumption | omega | rfl | trivial) ?_
      refine ax [] ⟨congrArg A.bool ?_, rfl⟩
      unfold kidB
      rw [if_pos h1, decide_eq_false (show ¬ 2 ≤ p.kids.length by omega), Bool.false_and]
  · refine sq fun _ _ => ?_
    refine rg (sg ?_)
    refine nx ?_
    refine cb (fun h2 => ?_) (fun h2 => ?_)
    · refine sq fun _ _ => ?_
      refine rg (sg ?_)
      refine nx ?_
      refine rt (sg ?_)
      refine f1 (g := sg ?_)
      refine ax [] ⟨congrArg A.bool ?_, rfl⟩
      unfold kidB
      rw [if_neg h1, if_pos h2, Bool.eq_iff_iff, decide_eq_true_eq, decide_eq_true_eq]
      omega
    · refine sk (sg ?_)
      refine nx ?_
      refine sq fun _ _ => ?_
      refine rg (sg ?_)
      refine nx ?_
      refine rt ?_
      refine f1 (g := sg ?_)
      refine ax [] ⟨congrArg A.bool ?_, rfl⟩
      unfold kidB
      rw [if_neg h1, if_neg h2, Bool.eq_iff_iff, decide_eq_true_eq, decide_eq_true_eq]
      omega

end Go.Proofs.YthinpbnnpelhhaaGreatDoor.V
