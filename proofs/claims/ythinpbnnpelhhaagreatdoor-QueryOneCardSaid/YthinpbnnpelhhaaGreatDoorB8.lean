import Derived.Test.YthinpbnnpelhhaaGreatDoorB7
namespace Go.Proofs.YthinpbnnpelhhaaGreatDoor.V
open Go Go.RowKit Go.Proofs.YthinpbnnpelhhaaGreatDoorW.PrintLast
open Go.Proofs
set_option linter.unusedVariables false
set_option linter.unusedSimpArgs false
attribute [local irreducible] awp
set_option maxRecDepth 100000
theorem c25 (p : Pr) (hp : Sm p) : PC Tryz.prog 25 [aPr p] [] (fun r bx => r = A.bool (mayP p) ∧ bx = []) := by
  refine enter (rs := [.tmp 2]) mx Tryz.func25 Tryz.ntmps25 fun Q0 hQ0 => ?_
  refine sq fun _ _ => ?_
  refine rg (sg ?_)
  refine nx ?_
  refine sq fun _ _ => ?_
  refine rgs 2 (sgt ?_)
  refine cl [] (sg ?_)
  refine (c44at 6 p 16 hp (by omega) (by omega) (by omega)).mono ?_
  rintro r bx ⟨rfl, rfl⟩
  refine sg ?_
  refine hr 4 (sgt ?_)
  simp only [undef]
  refine ⟨fun hs => ⟨hs, ?_⟩, fun hs => ?_⟩
  · refine cl [] (sg ?_)
    refine (c45 _ (by first | assumption | omega | trivial | rfl)).mono ?_
    rintro r bx ⟨rfl, rfl⟩
    refine sg ?_
    refine hrl (sg ?_)
    refine nx ?_
    refine rt ?_
    refine f1 (g := sg ?_)
    exact ax [] ⟨congrArg A.bool (by unfold mayP; rw [decide_eq_true hs, Bool.true_and]), rfl⟩
  · refine hrl ?_
    simp only [go_sem, Nat.reduceAdd, Nat.reduceSub, Nat.reduceMul, Nat.reduceLT, Nat.reduceLeDiff, Nat.reduceEqDiff, reduceIte, reduceCtorEq, if_true, if_false, Int.reduceEq, Int.reduceLT, Int.reduceLE, Int.reduceAdd, Int.reduceSub, Int.reduceMul, Int.reduceNeg, Int.reduceToNat, decide_true, decide_false, Nat.reduceBEq, hs]
    refine nx ?_
    refine rt ?_
    refine f1 (g := sg ?_)
    exact ax [] ⟨congrArg A.bool (by unfold mayP; rw [decide_eq_false hs, Bool.false_and]), rfl⟩
theorem c12at (d : Nat) : ∀ (p : Pr), d ≤ 100 → PC Tryz.prog 12 [aPr p, A.int .i64 d] [] (fun r bx => r = A.bool (smP d p) ∧ bx = []) := by
  induction d with
  | zero =>
    intro p hd
    refine enter (rs := [.tmp 4]) mx Tryz.func12 Tryz.ntmps12 fun Q0 hQ0 => ?_
    refine sq fun _ _ => ?_
    refine rg (sg ?_)
    refine nx ?_
    refine sq fun _ _ => ?_
    refine sq fun _ _ => ?_
    refine rg (sg ?_)
    refine nx ?_
    refine ct (hx := ?_)
    refine sq fun _ _ => ?_
    refine rg (sg ?_)
    refine nx ?_
    refine rt (sg ?_)
    refine f1 (g := sg ?_)
    exact ax [] ⟨rfl, rfl⟩
  | succ d ih =>
    intro p hd
    have hd1 : ¬ (((d + 1 : Nat) : Int) < 1) := by omega
    have hwd : IntKind.i64.wrap (((d + 1 : Nat) : Int) - 1) = (d : Int) := by rw [IntKind.wrap_i64]; omega
    have he0 : smP (d + 1) p = (decide (p.kids.length ≤ 20) && decide (p.col.size ≤ 100) && decide (p.pat.size ≤ 100) && decide (p.val.s.size ≤ 100) && p.kids.all (smP d)) := rfl
    refine enter (rs := [.tmp 4]) mx Tryz.func12 Tryz.ntmps12 fun Q0 hQ0 => ?_
    refine sq fun _ _ => ?_
    refine rg (sg ?_)
    refine nx ?_
    refine sq fun _ _ => ?_
    refine sq fun _ _ => ?_
    refine rg ?_
    simp only [go_sem, Nat.reduceAdd, Nat.reduceSub, Nat.reduceMul, Nat.reduceLT, Nat.reduceLeDiff, Nat.reduceEqDiff, reduceIte, reduceCtorEq, if_true, if_false, Int.reduceEq, Int.reduceLT, Int.reduceLE, Int.reduceAdd, Int.reduceSub, Int.reduceMul, Int.reduceNeg, Int.reduceToNat, decide_true, decide_false, Nat.reduceBEq, hd1]
    refine nx ?_
    have hb : (((p.kids.length : Int) ≤ 20) ∧ ((p.col.size : Int) ≤ 100) ∧ ((p.pat.size : Int) ≤ 100) ∧ ((p.val.s.size : Int) ≤ 100)) ↔ (decide (p.kids.length ≤ 20) && decide (p.col.size ≤ 100) && decide (p.pat.size ≤ 100) && decide (p.val.s.size ≤ 100)) = true := by
      simp only [Bool.and_eq_true, decide_eq_true_eq]
      omega
    refine cb (fun h1 => ?_) (fun h1 => ?_)
    · have he1 : smP (d + 1) p = false := by
        rw [he0, Bool.and_eq_false_iff]
        left
        rw [← Bool.not_eq_true, ← hb]
        omega
      refine sq fun _ _ => ?_
      refine rg (sg ?_)
      refine nx ?_
      refine rt (sg ?_)
      refine f1 (g := sg ?_)
      exact ax [] ⟨congrArg A.bool he1.symm, rfl⟩
    · have he1 : smP (d + 1) p = p.kids.all (smP d) := by
        rw [he0, hb.1 (by omega), Bool.true_and]
      have hlen : p.kids.length ≤ 20 := by omega
      rw [he1] at hQ0
      refine sk (sg ?_)
      refine nx ?_
      refine sq fun _ _ => ?_
      refine sq fun _ _ => ?_
      refine rg (sg ?_)
      refine nx ?_
      refine bl ?_
      refine lp [1, 2, 5] [0] (fun k σ => ∃ i : Nat, k = p.kids.length - i ∧ i ≤ p.kids.length ∧ p.kids.all (smP d) = (p.kids.drop i).all (smP d) ∧ σ = ⟨49, 0, [(1, A.int .i64 ((d + 1 : Nat) : Int)), (2, xPtr 0 0), (5, A.int .i64 i)], [.var [xI p.op, xS p.col, xI p.cmp, xB p.val.nl, xI p.val.i, xS p.val.s, xI p.kind, xS p.pat, .c (.sl p.kids.length 9 (elemsOf (p.kids.map cPr)))] 27]⟩) p.kids.length ?_ ?_
      · exact ⟨0, by omega, by omega, rfl, keq⟩
      · rintro k σ' ⟨i, hk, hi, hev, rfl⟩ Q1 hQ1
        refine sq fun _ _ => ?_
        refine sq fun _ _ => ?_
        refine rg (sg ?_)
        refine nx ?_
        refine cb (fun h => ?_) (fun h => ?_)
        · have hin : i < p.kids.length := by omega
          have hwi : IntKind.i64.wrap ((i : Int) + 1) = ((i + 1 : Nat) : Int) := wrap_succ (by omega)
          have hee := el_at (f := cPr) hin
          rw [List.drop_eq_getElem_cons hin, List.all_cons] at hev
          refine sk (sg ?_)
          refine nx ?_
          refine sq fun _ _ => ?_
          refine bl ?_
          refine sq fun _ _ => ?_
          refine rg (sg ?_)
          refine and_assoc.2 ?_
          refine And.intro (by first | assumption | omega | rfl | trivial) ?_
          refine And.intro (by first | assumption | omega | rfl | trivial) ?_
          refine cl [] (sg ?_)
          simp (disch := omega) only [el_at]
          refine sg ?_
          rw [hwd]
          refine (ih p.kids[i] (by omega)).mono ?_
          rintro r bx ⟨rfl, rfl⟩
          refine sg ?_
          refine nx ?_
          refine cb (fun h3 => ?_) (fun h3 => ?_)
          · rw [h3, Bool.false_and] at hev
            rw [hev] at hQ0
            refine sq fun _ _ => ?_
            refine rg (sg ?_)
            refine nx ?_
            refine rt (sg ?_)
            refine lr (g := sg ?_)
            refine f1 (g := sg ?_)
            exact ax [] ⟨rfl, rfl⟩
          · rw [Bool.not_eq_false] at h3
            rw [h3, Bool.true_and] at hev
            refine sk (sg ?_)
            refine nx ?_
            refine rg (sg ?_)
            simp (disch := omega) only [wrap_succ]
            refine ln (p.kids.length - (i + 1)) [0] ?_ ?_
            · omega
            exact ⟨i + 1, by omega, by omega, hev, keq⟩
        · rw [List.drop_of_length_le (by omega)] at hev
          rw [hev] at hQ0
          refine xt (sg ?_)
          refine lx (g := sg ?_)
          refine nx ?_
          refine sq fun _ _ => ?_
          refine rg (sg ?_)
          refine nx ?_
          refine rt ?_
          refine f1 (g := sg ?_)
          exact ax [] ⟨rfl, rfl⟩

end Go.Proofs.YthinpbnnpelhhaaGreatDoor.V
