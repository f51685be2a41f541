/- Proved: the tied card of firkinlaw17.PredMay: for all columns and every predicate the law returns true, and its inputs read as they did. Conditions: those of the given card (the listed variables of the library read as the program's text lays them), no others. -/
import Derived.Test.YthafcbbkjdbomaaDoorM3
import Derived.Test.YthafcbbkjdbomaaDoorC1
import Derived.Test.YthafcbbkjdbomaaDoorV22
import Derived.Test.YthafcbbkjdbomaaDoorTie
import Derived.Test.YthafcbbkjdbomaaDoorCards
import Derived.WalkKit
import Derived.ProofKit
import Derived.Handy
import Derived.Lay
import Derived.SevenTiedAt
import Derived.Stop.LaidErr
import Derived.Lib.LaidTab
import Derived.Lib.ItoaNum
import Derived.Shelf.Vars
import Derived.Handed
import Derived.ChangeMaps5
import Derived.OpenShut
import Derived.ShutString
import Derived.ChangeOld
import Derived.Carry
namespace Go.Proofs.YthafcbbkjdbomaaDoor.V
open Go Go.RowKit Go.Proofs.YthafcbbkjdbomaaDoorW.PrintLast
open Go.Proofs
set_option linter.unusedVariables false
set_option linter.unusedSimpArgs false
attribute [local irreducible] awp
section
set_option maxRecDepth 100000
theorem c76u (l : List Co) (nm : ByteArray) (hl : l.length ≤ 1000) (a : Int) (ha : fiC nm l = a) : PC Tryd.prog 76 [xRow l.length 3 (elemsOf (l.map cCo)), A.str nm] [] (fun r bx => r = A.int .i64 a ∧ bx = []) := by
  subst ha
  exact c76 l nm hl
set_option maxHeartbeats 8000000 in
theorem c51at (l : List Co) (hl : l.length ≤ 1000) : ∀ p : Pr, Sm p → PC Tryd.prog 51 [xRow l.length 3 (elemsOf (l.map cCo)), aPr p] [] (fun r bx => r = A.bool (allP (tyB l) p) ∧ bx = []) := by
  refine Pr.by_kids fun p ih hp => ?_
  have hlen := hp.len
  have hall := allP_eq (tyB l) p
  refine enter (rs := [.tmp 4]) mx Tryd.func51 Tryd.ntmps51 fun Q0 hQ0 => ?_
  refine sq fun _ _ => ?_
  refine rg (sg ?_)
  refine nx ?_
  refine sq fun K hK => ?_
  have key : tyB l p = true → ∀ σ : St, σ.good [0] → σ.keep [0, 3] [0] = ⟨59, 0, [(0, xRow l.length 3 (elemsOf (l.map cCo))), (3, xPtr 0 0)], [.var [xI p.op, xS p.col, xI p.cmp, xB p.val.nl, xI p.val.i, xS p.val.s, xI p.kind, xS p.pat, .c (.sl p.kids.length 9 (elemsOf (p.kids.map cPr)))] 35]⟩ → K σ := by
    intro hty σ hgood hσ
    refine kp [0, 3] [0] ?_ hK hgood
    rw [hσ]
    clear hσ hgood
    rw [hall, hty, Bool.true_and] at hQ0
    refine sq fun _ _ => ?_
    refine sq fun _ _ => ?_
    refine rg (sg ?_)
    refine nx ?_
    refine bl ?_
    refine lp [0, 3, 6] [0] (fun k σ => ∃ (i : Nat), k = p.kids.length - i ∧ i ≤ p.kids.length ∧ p.kids.all (allP (tyB l)) = (p.kids.drop i).all (allP (tyB l)) ∧ σ = ⟨59, 0, [(0, xRow l.length 3 (elemsOf (l.map cCo))), (3, xPtr 0 0), (6, A.int .i64 i)], [.var [xI p.op, xS p.col, xI p.cmp, xB p.val.nl, xI p.val.i, xS p.val.s, xI p.kind, xS p.pat, .c (.sl p.kids.length 9 (elemsOf (p.kids.map cPr)))] 35]⟩) p.kids.length ?_ ?_
    · exact ⟨0, by omega, by omega, rfl, keq⟩
    · rintro k σ' ⟨i, hk, hi, hev, rfl⟩ Q1 hQ1
      refine sq fun _ _ => ?_
      refine sq fun _ _ => ?_
      refine rg (sg ?_)
      refine nx ?_
      refine cb (fun h => ?_) (fun h => ?_)
      · have hin : i < p.kids.length := by omega
        have hwi : IntKind.i64.wrap ((i : Int) + 1) = ((i + 1 : Nat) : Int) := wrap_succ (by omega)
        have hee := el_at (f := cPr) hin
        rw [List.drop_eq_getElem_cons hin, List.all_cons] at hev
        refine sk (sg ?_)
        refine nx ?_
        refine sq fun _ _ => ?_
        refine bl ?_
        refine sq fun _ _ => ?_
        refine rg (sg ?_)
        refine and_assoc.2 ?_
        refine And.intro (by first | assumption | omega | rfl | trivial) ?_
        refine And.intro (by first | assumption | omega | rfl | trivial) ?_
        refine cl [] (sg ?_)
        simp (disch := omega) only [el_at]
        refine sg ?_
        refine (ih p.kids[i] (List.getElem_mem hin) (hp.kid _ (List.getElem_mem hin))).mono ?_
        rintro r bx ⟨rfl, rfl⟩
        refine sg ?_
        refine nx ?_
        refine cb (fun h3 => ?_) (fun h3 => ?_)
        · rw [h3, Bool.false_and] at hev
          rw [hev] at hQ0
          refine sq fun _ _ => ?_
          refine rg (sg ?_)
          refine nx ?_
          refine rt (sg ?_)
          refine lr (g := sg ?_)
          refine f1 (g := sg ?_)
          exact ax [] ⟨rfl, rfl⟩
        · rw [Bool.not_eq_false] at h3
          rw [h3, Bool.true_and] at hev
          refine sk (sg ?_)
          refine nx ?_
          refine rg (sg ?_)
          simp (disch := omega) only [wrap_succ]
          refine ln (p.kids.length - (i + 1)) [0] ?_ ?_
          · omega
          exact ⟨i + 1, by omega, by omega, hev, keq⟩
      · rw [List.drop_of_length_le (by omega)] at hev
        rw [hev] at hQ0
        refine xt (sg ?_)
        refine lx (g := sg ?_)
        refine nx ?_
        refine sq fun _ _ => ?_
        refine rg (sg ?_)
        refine nx ?_
        refine rt ?_
        refine f1 (g := sg ?_)
        exact ax [] ⟨rfl, rfl⟩
  refine sq fun _ _ => ?_
  refine rg (sg ?_)
  refine nx ?_
  refine cb (fun h1 => ?_) (fun h1 => ?_)
  · by_cases hf : fiC p.col l < 0
    · refine sq fun _ _ => ?_
      refine rg (sg ?_)
      refine cl [] (sg ?_)
      have hk : fiC p.col l = -1 := by have := fi_ge (nm := p.col) (l := l); omega
      refine (c76u l p.col hl _ hk).mono ?_
      rintro r bx ⟨rfl, rfl⟩
      refine sg ?_
      have hty : tyB l p = false := by simp [tyB, h1, hf]
      rw [hall, hty, Bool.false_and] at hQ0
      refine nx ?_
      refine sq fun _ _ => ?_
      rcases Nat.eq_zero_or_pos l.length with h0 | h0
      · have he0 : elemsOf (l.map cCo) 0 1 = .any := by rw [List.eq_nil_of_length_eq_zero h0]; rfl
        refine dr [.take 0, .take 1, .take 2, .take 3, .take 4, .take 5, .take 6, .take 7, .take 8, .take 9, .take 10, .take 11, .take 12, .take 13, .take 14, .take 15, .take 16, .take 17, .take 18, .take 19, .take 20, .take 21, .take 22, .take 23, .take 24, .take 25, .take 26, .take 27, .take 28, .take 29] [] ?_
        simp (config := { maxSteps := 4000000 }) only [go_sem, Nat.reduceAdd, Nat.reduceSub, Nat.reduceMul, Nat.reduceLT, Nat.reduceLeDiff, Nat.reduceEqDiff, reduceIte, reduceCtorEq, if_true, if_false, Int.reduceEq, Int.reduceLT, Int.reduceLE, Int.reduceAdd, Int.reduceSub, Int.reduceMul, Int.reduceNeg, Int.reduceToNat, decide_true, decide_false, Nat.reduceBEq, he0]
        refine nx ?_
        refine ct (hx := ?_)
        refine sq fun _ _ => ?_
        refine rg (sg ?_)
        refine nx ?_
        refine rt (sg ?_)
        refine f1 (g := sg ?_)
        exact ax [] ⟨rfl, rfl⟩
      · have he0 : elemsOf (l.map cCo) 0 1 = .v (.int .i64 l[0].ty) := by rw [el_at h0]; rfl
        refine dr [.take 0, .take 1, .take 2, .take 3, .take 4, .take 5, .take 6, .take 7, .take 8, .take 9, .take 10, .take 11, .take 12, .take 13, .take 14, .take 15, .take 16, .take 17, .take 18, .take 19, .take 20, .take 21, .take 22, .take 23, .take 24, .take 25, .take 26, .take 27, .take 28, .take 29] [] ?_
        simp (config := { maxSteps := 4000000 }) only [go_sem, Nat.reduceAdd, Nat.reduceSub, Nat.reduceMul, Nat.reduceLT, Nat.reduceLeDiff, Nat.reduceEqDiff, reduceIte, reduceCtorEq, if_true, if_false, Int.reduceEq, Int.reduceLT, Int.reduceLE, Int.reduceAdd, Int.reduceSub, Int.reduceMul, Int.reduceNeg, Int.reduceToNat, decide_true, decide_false, Nat.reduceBEq, he0]
        refine nx ?_
        refine ct (hx := ?_)
        refine sq fun _ _ => ?_
        refine rg (sg ?_)
        refine nx ?_
        refine rt (sg ?_)
        refine f1 (g := sg ?_)
        exact ax [] ⟨rfl, rfl⟩
    · obtain ⟨i, hi, hfi, -⟩ := fi_in (nm := p.col) (l := l) (by omega)
      have hgd2 : l[(fiC p.col l).toNat]?.getD ⟨⟨#[]⟩, 0, false⟩ = l[i] := by rw [hfi, Int.toNat_natCast, List.getElem?_eq_getElem hi]; rfl
      have hee := el_at (f := cCo) hi
      have hi0 : ¬ ((i : Int) < 0) := by omega
      refine sq fun _ _ => ?_
      refine rg (sg ?_)
      refine cl [] (sg ?_)
      refine (c76u l p.col hl _ hfi).mono ?_
      rintro r bx ⟨rfl, rfl⟩
      refine sg ?_
      refine nx ?_
      refine sq fun _ _ => ?_
      refine dr [.take 0, .take 1, .take 2, .take 3, .take 4, .take 5, .take 6, .take 7, .take 8, .take 9, .take 10, .take 11, .take 12, .take 13, .take 14, .take 15, .take 16, .take 17, .take 18, .take 19, .take 20, .take 21, .take 22, .take 23, .take 24, .take 25, .take 26, .take 27, .take 28, .take 29] [] (sg ?_)
      refine And.intro (by simp; omega) ?_
      simp (disch := omega) only [el_at]
      refine sg ?_
      simp (disch := omega) only [el_at]
      refine sg ?_
      refine ⟨fun h => ⟨h, fun h2 => by rw [decide_eq_false h, decide_eq_true h2]; rfl⟩, fun h => ⟨h, h, by omega, by omega⟩, fun h => ⟨h, fun h4 => by rw [h, decide_eq_true h4]; rfl⟩, ?_⟩
      refine nx ?_
      refine cb (fun h2 => ?_) (fun h2 => ?_)
      · have hty : tyB l p = false := by
          rcases h2 with (h2 | ⟨h2, h3⟩) | ⟨h2, h3⟩
          · omega
          · simp [tyB, h1, hf, h2, hgd2, h3]
          · simp [tyB, h1, hf, h2, hgd2, h3]
        rw [hall, hty, Bool.false_and] at hQ0
        refine sq fun _ _ => ?_
        refine rg (sg ?_)
        refine nx ?_
        refine rt (sg ?_)
        refine f1 (g := sg ?_)
        exact ax [] ⟨rfl, rfl⟩
      · have hty : tyB l p = true := by
          simp only [tyB, h1, hf, if_false, List.getD_eq_getElem?_getD, hgd2]
          by_cases h3 : p.op = 2
          · rw [if_pos h3, decide_eq_true_eq]
            exact Decidable.not_not.1 fun h4 => h2 (.inl (.inr ⟨h3, by simpa using h4⟩))
          · rw [if_neg h3]
            by_cases h4 : p.op = 4
            · rw [if_pos h4, decide_eq_true_eq]
              exact Decidable.not_not.1 fun h5 => h2 (.inr ⟨h4, by simpa using h5⟩)
            · rw [if_neg h4]
        refine sk (sg ?_)
        exact key hty _ (by simp [St.good, St.ids, upto]) keq
  · have hty : tyB l p = true := by simp [tyB, Decidable.not_not.1 h1]
    refine sk (sg ?_)
    exact key hty _ (by simp [St.good, St.ids, upto]) keq
end
section
set_option maxRecDepth 100000
theorem c27 (l : List Co) (p : Pr) (hp : Sm p) (hl : l.length ≤ 1000) (hz : ∀ (i : Nat) (h : i < l.length), l[i].nm.size ≤ 100) : PC Tryd.prog 27 [xRow l.length 3 (elemsOf (l.map cCo)), aPr p] [] (fun r bx => r = A.int .i64 (ftK l p) ∧ bx = []) := by
  refine enter (rs := [.tmp 4]) mx Tryd.func27 Tryd.ntmps27 fun Q0 hQ0 => ?_
  refine sq fun _ _ => ?_
  refine rg (sg ?_)
  refine nx ?_
  refine sq fun _ _ => ?_
  refine sq fun _ _ => ?_
  refine rgs 2 (sgt ?_)
  refine cl [] (sg ?_)
  refine (c15 _ (by first | assumption | omega | trivial | rfl)).mono ?_
  rintro r bx ⟨rfl, rfl⟩
  refine sg ?_
  refine hr 4 (sgt ?_)
  simp only [undef]
  refine ⟨fun hm => ⟨hm, ?_⟩, fun hm => ?_⟩
  · refine cl [] (sg ?_)
    refine (c50 _ (by first | assumption | omega | trivial | rfl) (by first | assumption | omega | trivial | rfl)).mono ?_
    rintro r bx ⟨rfl, rfl⟩
    refine sg ?_
    refine hrl (sg ?_)
    refine nx ?_
    refine cb (fun hk => ?_) (fun hk => ?_)
    · have hf : ftK l p = 1 := if_pos hk
      refine sq fun _ _ => ?_
      refine rg (sg ?_)
      refine nx ?_
      refine rt (sg ?_)
      refine f1 (g := sg ?_)
      exact ax [] ⟨by rw [hf]; rfl, rfl⟩
    · refine sk (sg ?_)
      refine nx ?_
      refine sq fun _ _ => ?_
      refine sq fun _ _ => ?_
      refine rg (sg ?_)
      refine cl [] (sg ?_)
      refine (c51at l hl p hp).mono ?_
      rintro r bx ⟨rfl, rfl⟩
      refine sg ?_
      refine nx ?_
      refine cb (fun ht => ?_) (fun ht => ?_)
      · have hf : ftK l p = 10 := by
          unfold ftK
          rw [if_neg hk, if_neg (by rw [ht]; decide)]
        refine sq fun _ _ => ?_
        refine rg (sg ?_)
        refine nx ?_
        refine rt (sg ?_)
        refine f1 (g := sg ?_)
        exact ax [] ⟨by rw [hf]; rfl, rfl⟩
      · have hf : ftK l p = 0 := by
          unfold ftK
          rw [if_neg hk, if_pos (by simpa using ht)]
        refine sk (sg ?_)
        refine nx ?_
        refine sq fun _ _ => ?_
        refine rg (sg ?_)
        refine nx ?_
        refine rt ?_
        refine f1 (g := sg ?_)
        exact ax [] ⟨by rw [hf]; rfl, rfl⟩
  · have hf : ftK l p = 1 := if_pos (.inl hm)
    refine hrl ?_
    simp only [go_sem, Nat.reduceAdd, Nat.reduceSub, Nat.reduceMul, Nat.reduceLT, Nat.reduceLeDiff, Nat.reduceEqDiff, reduceIte, reduceCtorEq, if_true, if_false, Int.reduceEq, Int.reduceLT, Int.reduceLE, Int.reduceAdd, Int.reduceSub, Int.reduceMul, Int.reduceNeg, Int.reduceToNat, decide_true, decide_false, Nat.reduceBEq, hm]
    refine nx ?_
    refine ct (hx := ?_)
    refine sq fun _ _ => ?_
    refine rg (sg ?_)
    refine nx ?_
    refine rt (sg ?_)
    refine f1 (g := sg ?_)
    exact ax [] ⟨by rw [hf]; rfl, rfl⟩
set_option maxHeartbeats 16000000 in
theorem c6 (l : List Co) (p : Pr) (hrg : Rg p) : PC Tryd.prog 6 [xRow l.length 3 (elemsOf (l.map cCo)), aPr p] [] (fun r bx => r = .bool true ∧ bx = []) := by
  refine enter (rs := [.tmp 4]) mx Tryd.func6 Tryd.ntmps6 fun Q0 hQ0 => ?_
  refine sq fun _ _ => ?_
  refine rg (sg ?_)
  refine nx ?_
  refine sq fun _ _ => ?_
  refine sq fun _ _ => ?_
  refine rgs 2 (sgt ?_)
  refine cl [] (sg ?_)
  refine (c23 _).mono ?_
  rintro r bx ⟨⟨b, rfl, hb⟩, rfl⟩
  refine sg ?_
  cases b
  · refine hr 4 (sgt ?_)
    refine hrl (sg ?_)
    refine nx ?_
    refine ct (hx := ?_)
    refine sq fun _ _ => ?_
    refine rg (sg ?_)
    refine cl [] (sg ?_)
    refine (c12).mono ?_
    rintro r bx ⟨rfl, rfl⟩
    refine sg ?_
    refine nx ?_
    refine rt (sg ?_)
    refine f1 (g := sg ?_)
    exact ax [] ⟨rfl, rfl⟩
  · obtain ⟨hl, hz⟩ := hb rfl
    have hl1 : l.length ≤ 1000 := by omega
    refine hr 4 (sgt ?_)
    refine cl [] (sg ?_)
    refine (c11at 9 p (by omega)).mono ?_
    rintro r bx ⟨rfl, rfl⟩
    refine sg ?_
    refine hrl (sg ?_)
    refine nx ?_
    refine cb (fun h => ?_) (fun h => ?_)
    · refine sq fun _ _ => ?_
      refine rg (sg ?_)
      refine cl [] (sg ?_)
      refine (c12).mono ?_
      rintro r bx ⟨rfl, rfl⟩
      refine sg ?_
      refine nx ?_
      refine rt (sg ?_)
      refine f1 (g := sg ?_)
      exact ax [] ⟨rfl, rfl⟩
    · rw [Bool.not_eq_false] at h
      have hs : Sm p := smP_sm 9 p h
      refine sk (sg ?_)
      refine nx ?_
      refine sq fun _ _ => ?_
      refine dfs (.take 0 <| .take 2 <| .one 1 <| .one 3 <| .pure 4 <| .pure 5 <| .pure 6 <| .pure 10 <| .two 7 11 (.two 8 11 (.two 9 11 (.one 11 <| .one 12 <| .pure 13 <| .pure 14 <| .pure 15 <| .one 16 <| .pure 17 <| .pure 18 <| .nil) (.one 9 <| .one 12 <| .pure 13 <| .pure 14 <| .pure 15 <| .one 16 <| .pure 17 <| .pure 18 <| .nil)) (.one 8 <| .one 9 <| .one 12 <| .pure 13 <| .pure 14 <| .pure 15 <| .one 16 <| .pure 17 <| .pure 18 <| .nil)) (.one 7 <| .one 8 <| .one 9 <| .one 12 <| .pure 13 <| .pure 14 <| .pure 15 <| .one 16 <| .pure 17 <| .pure 18 <| .nil)) [] ?_
      refine afs (sg ?_)
      refine afs (sg ?_)
      refine afs (sg ?_)
      refine cl [] (sg ?_)
      refine (c24 _ (by first | assumption | omega | trivial | rfl)).mono ?_
      rintro r bx ⟨rfl, rfl⟩
      refine sg ?_
      refine afs (sg ?_)
      refine cl [] (sg ?_)
      refine (c15 _ (by first | assumption | omega | trivial | rfl)).mono ?_
      rintro r bx ⟨rfl, rfl⟩
      refine sg ?_
      refine afs (sg ?_)
      refine afs (sg ?_)
      refine afs (sg ?_)
      refine afs (sg ?_)
      refine afs (sg ?_)
      refine ⟨?_, ?_⟩
      · refine afs (sg ?_)
        refine ⟨?_, ?_⟩
        · refine cl [] (sg ?_)
          refine (c26 _ _ (by first | assumption | omega | trivial | rfl) (by first | assumption | omega | trivial | rfl) (by first | assumption | omega | trivial | rfl)).mono ?_
          rintro r bx ⟨rfl, rfl⟩
          refine sg ?_
          refine afs (sg ?_)
          refine ⟨?_, ?_⟩
          · refine cl [] (sg ?_)
            refine (c25 _).mono ?_
            rintro r bx ⟨rfl, rfl⟩
            refine sg ?_
            refine afs (sg ?_)
            refine afs (sg ?_)
            refine cl [] (sg ?_)
            refine (c27 _ _ (by first | assumption | omega | trivial | rfl) (by first | assumption | omega | trivial | rfl) (by first | assumption | omega | trivial | rfl)).mono ?_
            rintro r bx ⟨rfl, rfl⟩
            refine sg ?_
            refine afs (sg ?_)
            refine afs (sg ?_)
            refine afs (sg ?_)
            refine afs (sg ?_)
            refine cl [] (sg ?_)
            refine (c12).mono ?_
            rintro r bx ⟨rfl, rfl⟩
            refine sg ?_
            refine afs (sg ?_)
            refine afs (sg ?_)
            refine afs (sg ?_)
            refine nx ?_
            refine rt ?_
            refine f1 (g := sg ?_)
            exact ax [] ⟨rfl, rfl⟩
          · refine afs (sg ?_)
            refine cl [] (sg ?_)
            refine (c25 _).mono ?_
            rintro r bx ⟨rfl, rfl⟩
            refine sg ?_
            refine afs (sg ?_)
            refine cl [] (sg ?_)
            refine (c27 _ _ (by first | assumption | omega | trivial | rfl) (by first | assumption | omega | trivial | rfl) (by first | assumption | omega | trivial | rfl)).mono ?_
            rintro r bx ⟨rfl, rfl⟩
            refine sg ?_
            refine afs (sg ?_)
            refine afs (sg ?_)
            refine afs (sg ?_)
            refine afs (sg ?_)
            refine cl [] (sg ?_)
            refine (c12).mono ?_
            rintro r bx ⟨rfl, rfl⟩
            refine sg ?_
            refine afs (sg ?_)
            refine afs (sg ?_)
            refine afs (sg ?_)
            refine nx ?_
            refine rt ?_
            refine f1 (g := sg ?_)
            exact ax [] ⟨rfl, rfl⟩
        · refine afs (sg ?_)
          refine cl [] (sg ?_)
          refine (c26 _ _ (by first | assumption | omega | trivial | rfl) (by first | assumption | omega | trivial | rfl) (by first | assumption | omega | trivial | rfl)).mono ?_
          rintro r bx ⟨rfl, rfl⟩
          refine sg ?_
          refine afs (sg ?_)
          refine cl [] (sg ?_)
          refine (c25 _).mono ?_
          rintro r bx ⟨rfl, rfl⟩
          refine sg ?_
          refine afs (sg ?_)
          refine cl [] (sg ?_)
          refine (c27 _ _ (by first | assumption | omega | trivial | rfl) (by first | assumption | omega | trivial | rfl) (by first | assumption | omega | trivial | rfl)).mono ?_
          rintro r bx ⟨rfl, rfl⟩
          refine sg ?_
          refine afs (sg ?_)
          refine afs (sg ?_)
          refine afs (sg ?_)
          refine afs (sg ?_)
          refine cl [] (sg ?_)
          refine (c12).mono ?_
          rintro r bx ⟨rfl, rfl⟩
          refine sg ?_
          refine afs (sg ?_)
          refine afs (sg ?_)
          refine afs (sg ?_)
          refine nx ?_
          refine rt ?_
          refine f1 (g := sg ?_)
          exact ax [] ⟨rfl, rfl⟩
      · refine afs (sg ?_)
        refine afs (sg ?_)
        refine cl [] (sg ?_)
        refine (c26 _ _ (by first | assumption | omega | trivial | rfl) (by first | assumption | omega | trivial | rfl) (by first | assumption | omega | trivial | rfl)).mono ?_
        rintro r bx ⟨rfl, rfl⟩
        refine sg ?_
        refine afs (sg ?_)
        refine cl [] (sg ?_)
        refine (c25 _).mono ?_
        rintro r bx ⟨rfl, rfl⟩
        refine sg ?_
        refine afs (sg ?_)
        refine cl [] (sg ?_)
        refine (c27 _ _ (by first | assumption | omega | trivial | rfl) (by first | assumption | omega | trivial | rfl) (by first | assumption | omega | trivial | rfl)).mono ?_
        rintro r bx ⟨rfl, rfl⟩
        refine sg ?_
        refine afs (sg ?_)
        refine afs (sg ?_)
        refine afs (sg ?_)
        refine afs (sg ?_)
        refine cl [] (sg ?_)
        refine (c12).mono ?_
        rintro r bx ⟨rfl, rfl⟩
        refine sg ?_
        refine afs (sg ?_)
        refine afs (sg ?_)
        refine afs (sg ?_)
        refine nx ?_
        refine rt ?_
        refine f1 (g := sg ?_)
        exact ax [] ⟨rfl, rfl⟩
end
section
set_option maxRecDepth 100000
theorem cells3 {w : World} {a : Addr} {cs : List Value} (h : w.cells? 0 a 3 = some cs) : cs.length = 3 ∧ ∀ j, j < 3 → w.cell? (a.add j) = cs[j]? := by
  unfold World.cells? at h
  rw [if_pos (Nat.zero_le _)] at h
  simp only [show List.range 3 = [0, 1, 2] from rfl, List.mapM_cons, List.mapM_nil, Option.bind_eq_bind, Option.pure_def, Option.bind_eq_some_iff, Option.some.injEq] at h
  obtain ⟨x0, e0, l0, ⟨x1, e1, l1, ⟨x2, e2, l2, rfl, rfl⟩, rfl⟩, rfl⟩ := h
  refine ⟨rfl, fun j hj => ?_⟩
  match j, hj with
  | 0, _ => exact e0
  | 1, _ => exact e1
  | 2, _ => exact e2
abbrev vCo (c : Co) : List Value := [.string c.nm, .int .i64 c.ty, .bool c.nl]
theorem open_co {H : Type} {enc : TypeId × Value → H} {W : World} {sp : Nat → Bool} {n : Nat} {cs : List Value} {x : DataW H × List MemPlace} (h : DataW.trod enc Tryd.prog W 0 sp true n 62 cs = some x) : ∃ c : Co, cs = vCo c := by
  obtain ⟨xs, m, rfl, -, hcl, hxl, hf⟩ := DataW.trod_struct Tryd.underlying62 h
  have c62 : Tryd.prog.cellsOf 62 = 3 := by kernel_rfl
  have c3 : Tryd.prog.cellsOf 3 = 1 := by kernel_rfl
  have c9 : Tryd.prog.cellsOf 9 = 1 := by kernel_rfl
  have c4 : Tryd.prog.cellsOf 4 = 1 := by kernel_rfl
  rw [c62] at hcl
  match cs, hcl with
  | [a0, a1, a2], _ =>
  match xs, hxl with
  | [y0, y1, y2], _ =>
  have f0 : DataW.trod enc Tryd.prog W 0 sp true m 9 (List.take (Tryd.prog.cellsOf 9) (List.drop 0 [a0, a1, a2])) = some y0 := hf 0 _ rfl
  have f1 : DataW.trod enc Tryd.prog W 0 sp true m 3 (List.take (Tryd.prog.cellsOf 3) (List.drop 1 [a0, a1, a2])) = some y1 := hf 1 _ rfl
  have f2 : DataW.trod enc Tryd.prog W 0 sp true m 4 (List.take (Tryd.prog.cellsOf 4) (List.drop 2 [a0, a1, a2])) = some y2 := hf 2 _ rfl
  rw [c9] at f0
  rw [c3] at f1
  rw [c4] at f2
  obtain ⟨nm, e0, -, -⟩ := DataW.trod_string (cs := [a0]) Tryd.underlying9 f0
  obtain ⟨ty, e1, -, -⟩ := DataW.trod_int (cs := [a1]) Tryd.underlying3 f1
  obtain ⟨nl, e2, -⟩ := DataW.trod_bool (cs := [a2]) Tryd.underlying4 f2
  injection e0 with e0; injection e1 with e1; injection e2 with e2
  subst e0 e1 e2
  exact ⟨⟨nm, ty, nl⟩, rfl⟩
theorem open_cols {H : Type} {enc : TypeId × Value → H} {W : World} {sp : Nat → Bool} {n : Nat} {cs : List Value} {x : DataW H × List MemPlace} (h : DataW.trod enc Tryd.prog W 0 sp true n 46 cs = some x) : ∃ (l : List Co) (u : Value), cs = [u] ∧ RC (fun k => k < W.heap.size) W (.sl l.length 3 (elemsOf (l.map cCo))) u := by
  have c62 : Tryd.prog.cellsOf 62 = 3 := by kernel_rfl
  rcases DataW.trod_slice Tryd.underlying46 h with ⟨rfl, -⟩ | ⟨a, len, cap, elems, rest, r, rfl, rfl, -, -, hlc, hcm, hel, helem, -, -⟩
  · exact ⟨[], _, rfl, none, 0, rfl, ⟨Nat.le_refl _, Nat.zero_le _⟩, fun i hi => absurd hi (Nat.not_lt_zero _)⟩
  · rw [c62] at helem
    obtain ⟨l, hl, hQ⟩ := choose_list (Q := fun i (c : Co) => W.cells? 0 (a.add (i * 3)) 3 = some (vCo c)) len fun i hi => by
      have h1 := helem i hi
      rw [List.getElem?_eq_getElem (by omega), Option.bind_eq_some_iff] at h1
      obtain ⟨ci, h2, h3⟩ := h1
      obtain ⟨c, rfl⟩ := open_co h3
      exact ⟨c, h2⟩
    subst hl
    refine ⟨l, _, rfl, some a, cap, rfl, ⟨hlc, Nat.le_trans (Nat.le_trans hlc hcm) (by simp [maxLen])⟩, fun i hi j hj => ?_⟩
    obtain ⟨-, hc⟩ := cells3 (hQ i hi)
    have hee := el_at (f := cCo) (l := l) (i := i) hi
    have hcj := hc j hj
    rw [add_add] at hcj
    have hv : ∃ v, (vCo l[i])[j]? = some v := ⟨_, List.getElem?_eq_getElem (by simpa using hj)⟩
    obtain ⟨v, hv⟩ := hv
    rw [hv] at hcj
    refine ⟨a, v, rfl, ?_, hcj, ?_⟩
    · have := cell_lt hcj
      rw [add_block] at this
      exact this
    · show RC _ _ (elemsOf (l.map cCo) i j) v
      rw [hee]
      match j, hj with
      | 0, _ => rw [el_Co0]; exact (Option.some.inj hv).symm
      | 1, _ => rw [el_Co1]; exact (Option.some.inj hv).symm
      | 2, _ => rw [el_Co2]; exact (Option.some.inj hv).symm
end
section
open Go.ChangeShapes Go.WideShapes Go.ChangeAt
theorem PC.told {P : Program} {f : FuncId} {args : List A} {t : Bool} (h : PC P f args [] (fun r bx => r = .one (.c (.v (.bool t))) ∧ bx = [])) (w : World) (cargs : Array Value) (hs : Start w) (hg : ∀ g, g ∈ glIds → g < w.heap.size) (hl : args.length = cargs.size)
    (ha : ∀ (j : Nat) a, args[j]? = some a → ∃ v, cargs[j]? = some v ∧ RA (RL [] (fun k => k < w.heap.size) w) a v) :
    Calls P f cargs w fun e w' => e = .returned (.bool t) ∧ Below w.heap.size w w' := by
  have hm : Mem [] (fun k => k < w.heap.size) [] w := ⟨rfl, fun i j b b' g h _ _ _ _ _ => by simp at h, fun i b g h => by simp at h, fun g h => (nomatch h), fun k h => h, fun i b g h => by simp at h, ⟨w, hs, fun g h => ⟨hg g h, rfl⟩⟩⟩
  refine (h.2 _ [] w cargs (fun b h => by cases h) hm hl ha).mono fun e w' ⟨cv, r, bx, ν, ok', he, ⟨hr, hb⟩, hR, hM, hν, hF, _⟩ => ?_
  subst hr
  have hcv : cv = .bool t := hR
  subst hcv
  exact ⟨he, hF.below⟩
theorem own : ownKnob Tryd.prog.godebug = none := by kernel_rfl
end
section
set_option maxRecDepth 100000
section
variable {H : Type} {enc : TypeId × Value → H}
/-- A law over a laid world, whose shape is kept. -/
theorem handed_both {a : Assume} {C : Checked} {os : Os} {f : FuncId} {fn : Func} {s : ChangeSpec} {conds : List PathCond} {apart fresh handsOn again : Bool} {X : World → Array Value → Prop}
    (hX : ∀ (w w' : World) (args : Array Value), w.heap = w'.heap → X w args → X w' args)
    (own : ownKnob C.prog.godebug = none) (started : os.Started) (noInit : C.prog.inits.idxOf? f = none) (hfn : C.prog.funcs[f]? = some fn)
    (witness : ∃ (w : World) (tape : Tape) (i : Input), w.os = os ∧ (w.forCall tape i).Shaped C.prog ∧ i.vars = [] ∧ Input.okWide C.prog (w.forCall tape i) .any w.heap.size f i ∧
      ((s.pre enc C.prog fn conds apart (w.forCall tape i).memory i.args ∧ X (w.forCall tape i).memory i.args) ∧ sizedMet enc C.prog fn (OpenSpec.ofChange s) apart (w.forCall tape i).memory i.args) ∧ a.holds C.prog (lone (Frame.enter C.prog f i.args .normal) [] (w.forCall tape i)))
    (contract : ∀ (W : World) (base : Nat) (args : Array Value) (ds gs : List (DataW H)) (before : List MemPlace),
      (∀ (j : Nat) t v, fn.params[j]? = some t → args[j]? = some v → Value.okWide C.prog W .any base t v) →
      DataW.Whole enc C.prog fn.params.toList s.vars apart W args.toList ds gs before → X W args → W.ShapedOpen C.prog →
      Calls C.prog f args W fun e W' => ∃ v, e = .returned v ∧ s.post enc C.prog fn apart fresh handsOn again W args v W') :
    ReturnsInHanded a C os f .any (fun w args => (s.pre enc C.prog fn conds apart w args ∧ X w args) ∧ sizedMet enc C.prog fn (OpenSpec.ofChange s) apart w args) (s.post enc C.prog fn apart fresh handsOn again) := by
  refine returnsInHanded_of_calls own started noInit witness ?_
  intro w tape i _ hsh _ hok hpre hholds
  obtain ⟨_, _, _, fn', hfn', _, _, _, _, hval⟩ := hok
  have e : fn' = fn := Option.some.inj (hfn'.symm.trans hfn)
  subst e
  obtain ⟨⟨⟨ds, gs, before, hw, hc⟩, hx⟩, hz⟩ := hpre
  refine (contract (w.forCall tape i) w.heap.size i.args ds gs before hval (DataW.Whole.of_heap (w' := w.forCall tape i) (by rfl) hw) (hX _ _ _ (by rfl) hx) hsh).mono fun e W' ⟨v, he, hp⟩ => ?_
  subst he
  exact ChangeSpec.post_blind hp
end
theorem rowErr (u : TypeId) (h : Tryd.prog.typeName? 3 u = some "*errors.errorString") : u = 142 :=
  typeName_ptr_named (nm := "errors.errorString") (by kernel_rfl) (by kernel_rfl) (by decide) u h
theorem lt_var {P : Program} {W : World} {n : String} {g : Nat} {cs : Array Value} (hg : P.globalNamed n = some g) (h : W.var? P n = some cs) : g < W.heap.size := by
  unfold World.var? at h
  simp only [hg, Option.bind_some] at h
  rcases Nat.lt_or_ge g W.heap.size with h' | h'
  · exact h'
  · simp [Array.getElem?_eq_none h'] at h
theorem lt_cell {W : World} {g : Nat} {v : Value} (h : W.cell? ⟨g, 0, none⟩ = some v) : g < W.heap.size := by
  rcases Nat.lt_or_ge g W.heap.size with h' | h'
  · exact h'
  · simp [World.cell?, Array.getElem?_eq_none h'] at h
theorem maxLen_cell {W : World} (h : W.ShapedOpen Tryd.prog) : ∃ m : Int, W.cell? ⟨1, 0, none⟩ = some (.int .i64 m) :=
  cell_of_shapedOpen_int (t := 3) (zero := #[.int .i64 0]) h (by rw [show Tryd.prog.globals.size = 8 from by kernel_rfl]; decide) (by kernel_rfl) rfl (by kernel_rfl) (by kernel_rfl) Tryd.underlying3
end
section
set_option maxRecDepth 100000
abbrev laidP : List (String × DataW Unit) := [("math/bits.deBruijn32tab", Rows.laid_math_bits_deBruijn32tab), ("math/bits.deBruijn64tab", Rows.laid_math_bits_deBruijn64tab), ("internal/strconv.uint64pow10", Rows.laid_internal_strconv_uint64pow10), ("unicode/utf8.acceptRanges", Rows.laid_unicode_utf8_acceptRanges), ("unicode/utf8.first", Rows.laid_unicode_utf8_first)]
theorem startP {W : World} (h0 : laidMetH Tryd.prog laidP W) (hsh : W.ShapedOpen Tryd.prog) : Start W ∧ ∀ g ∈ glIds, g < W.heap.size := by
  rw [MakeChecks.laidMetH_plain _ _ _ (by kernel_rfl)] at h0
  obtain ⟨m, hm⟩ := maxLen_cell hsh
  have h3 : laidMet Tryd.prog (("internal/strconv.uint64pow10", Lib.tabData .u64 Lib.pow10Tab) :: [("unicode/utf8.acceptRanges", Rows.laid_unicode_utf8_acceptRanges), ("unicode/utf8.first", Rows.laid_unicode_utf8_first)]) W := h0.tail.tail
  have hT : Lib.TabIs Tryd.prog W "internal/strconv.uint64pow10" .u64 Lib.pow10Tab := Lib.tabIs_of_head (g := 0) (t := 114) (n := 20) (e := 68) (by kernel_rfl) (by kernel_rfl) Tryd.underlying114 Tryd.underlying68 (by kernel_rfl) (by kernel_rfl) h3
  refine ⟨⟨hT, trivial, trivial, m, hm⟩, fun g hg => ?_⟩
  have hc : g = 0 ∨ g = 1 := by simpa [glIds] using hg
  rcases hc with rfl | rfl
  · exact lt_var (P := Tryd.prog) (n := "internal/strconv.uint64pow10") (by kernel_rfl) hT
  · exact lt_cell hm
end
section
open Go.ChangeShapes Go.WideShapes Go.ChangeAt
theorem prog_laid : laidOutB Tryd.prog = true := by kernel_rfl
theorem predMay_call (l : List Co) (p : Pr) (hr : Rg p) (u0 u : Value) (w : World) (hs : Start w) (hg : ∀ g ∈ glIds, g < w.heap.size) (h0 : RC (fun k => k < w.heap.size) w (.sl l.length 3 (elemsOf (l.map cCo))) u0) (h1 : RC (fun k => k < w.heap.size) w (.sl p.kids.length 9 (elemsOf (p.kids.map cPr))) u) : Calls Tryd.prog 6 #[u0, .agg (vPr p u).toArray] w fun e w' => e = .returned (.bool true) ∧ Below w.heap.size w w' :=
  (c6 l p hr).told w _ hs hg rfl fun j a h => by
    rcases j with _ | _ | j
    · obtain rfl := Option.some.inj h; exact ⟨_, rfl, h0⟩
    · obtain rfl := Option.some.inj h; exact ⟨_, rfl, RA_nine h1⟩
    · cases h
set_option maxRecDepth 100000 in
theorem predMay_lifted (os : Os) (started : os.Started) (H : Type) (enc : TypeId × Value → H) :
    ReturnsInHanded {} Tryd.checked os 6 .any (fun w args => (Rows.predMaySpec.pre enc Tryd.prog Tryd.f6 [] false w args ∧ laidMetH Tryd.prog laidP w) ∧ sizedMet enc Tryd.prog Tryd.f6 (OpenSpec.ofChange Rows.predMaySpec) false w args)
      (Rows.predMaySpec.post enc Tryd.prog Tryd.f6 false true false false) := by
  refine handed_both (C := Tryd.checked) (X := fun w _ => laidMetH Tryd.prog laidP w) (fun _ _ _ hh h => h.of_heap hh) own started (by kernel_rfl) Tryd.func6
    (ChangeSpec.witness_shaped (enc := enc) (C := Tryd.checked) (os := os) (X := fun w _ => laidMetH Tryd.prog laidP w) false (World.laidAll Tryd.prog os laidP) #[.slice none 0 0, .agg #[.int .i64 0, .string ⟨#[]⟩, .int .i64 0, .bool false, .int .i64 0, .string ⟨#[]⟩, .int .i64 0, .string ⟨#[]⟩, .slice none 0 0]] 8 (World.laidAll_os _ _ _)
      (World.shaped_of_ZipB (by kernel_rfl) (by kernel_rfl)) (by kernel_rfl) (by kernel_rfl) (by kernel_rfl)
      (by rw [MakeChecks.laidMetH_plain _ _ _ (by kernel_rfl)]; exact laidMet_laidAll _ (by kernel_rfl) (by kernel_rfl))) ?_
  intro W base args ds gs before hval0 hW hX hsh
  obtain ⟨hs, hg⟩ := startP hX hsh
  have hval : ∀ (j : Nat) t v, Tryd.f6.params[j]? = some t → args[j]? = some v → Value.okWide Tryd.prog W .any base t v := hval0
  have hW' := hW
  obtain ⟨p, q, hA0, hV, rfl, _, _⟩ := hW
  have hA : DataW.TrodAll enc Tryd.prog W 0 (fun _ => true) true Tryd.f6.params.toList args.toList ds p := hA0
  rw [Tryd.params6] at hA hval
  obtain ⟨v0, v1, d0, d1, p0, p1, rfl, rfl, rfl, h0, h1⟩ := trodAll_two hA
  obtain ⟨rfl, rfl⟩ := trodVars_none hV
  obtain ⟨a0, n0, k0, rfl⟩ := okWide_slice Tryd.underlying46 (hval 0 46 v0 rfl rfl)
  obtain ⟨cs1, rfl, _⟩ := okWide_struct Tryd.underlying35 (hval 1 35 v1 rfl rfl)
  have lt0 : ∀ x ∈ p0, x.block < W.heap.size := by obtain ⟨m, hm⟩ := h0; exact DataW.trod_lt m _ _ _ hm
  have lt1 : ∀ x ∈ p1, x.block < W.heap.size := by obtain ⟨m, hm⟩ := h1; exact DataW.trod_lt m _ _ _ hm
  obtain ⟨l, u0, e0, r0⟩ : ∃ (l : List Co) (u : Value), Value.slice a0 n0 k0 = u ∧ RC (fun k => k < W.heap.size) W (.sl l.length 3 (elemsOf (l.map cCo))) u := by
    obtain ⟨m, hm⟩ := h0
    obtain ⟨l, u, hu, hr⟩ := open_cols hm
    exact ⟨l, u, by simpa [Value.cells] using hu, hr⟩
  obtain ⟨pr, u1, e1, r1, hR⟩ : ∃ (pr : Pr) (u : Value), cs1 = (vPr pr u).toArray ∧ RC (fun k => k < W.heap.size) W (.sl pr.kids.length 9 (elemsOf (pr.kids.map cPr))) u ∧ Rg pr := by
    obtain ⟨m, hm⟩ := h1
    obtain ⟨pr, u, hu, hr, hR⟩ := open_pr m m _ _ (Nat.le_refl _) hm
    refine ⟨pr, u, ?_, hr, hR⟩
    have h : cs1.toList = _ := hu
    cases cs1
    simp_all
  rw [e0] at h0 hW'
  rw [e1] at h1 hW'
  rw [e0, e1]
  simp only [List.append_nil] at hW'
  refine (predMay_call l pr hR u0 u1 W hs hg r0 r1).mono fun e W' ⟨he, hb⟩ => ?_
  subst he
  have hb0 := Below.trod prog_laid (by kernel_rfl) (of_decide_eq_true (by kernel_rfl)) h0 hb lt0
  have hb1 := Below.trod prog_laid (by kernel_rfl) (of_decide_eq_true (by kernel_rfl)) h1 hb lt1
  exact ⟨_, rfl, _, _, _, [], _, [], hW', trodAll_mk1 (shut_bool Tryd.underlying4 _), trodAll_cons_mk hb0 (trodAll_cons_mk hb1 trodAll_mk0), rfl, hb.frame _, fun h => by cases h⟩
theorem predMay_holds : Rows.PredMaySaid :=
  OpenClaim.holds_of_wide 6 Tryd.f6 rfl rfl rfl rfl rfl rfl rfl ⟨rfl, rfl, rfl, rfl, rfl⟩ rfl rfl rfl rfl rfl (by kernel_rfl) Tryd.func6 (by kernel_rfl)
    (of_decide_eq_true (by kernel_rfl)) (by unfold Func.isWrapper; first | (rw [if_pos (by decide +kernel)]; kernel_rfl) | (rw [if_neg (by decide +kernel)]; exact ⟨rfl, rfl⟩))
    (fun os started H enc _ => predMay_lifted os started H enc)
theorem predMay_card : Rows.PredMayCardSaid :=
  Claim7.holds_tied_plain_at .later [] [.data, .data, .data, .data, .pinned] true (true, "ef0624f603a2a1a8a5829bb336d2f7617a5d47f0a7c55a91e6a86ee3f243a27e") true predMay_holds (fun _ h => by cases h) (by kernel_rfl) (fun _ h => by cases h) predMay_row_tie rfl ⟨rfl, rfl⟩ (by kernel_rfl) rfl
    (fun f fn hf hfn => by
      obtain rfl : f = 6 := Option.some.inj ((show Tryd.prog.funcNamed "firkin/firkinlaw17.PredMay" = some 6 by kernel_rfl).symm.trans hf) |>.symm
      obtain rfl : fn = Tryd.f6 := (Option.some.inj (Tryd.func6.symm.trans hfn)).symm
      exact ⟨by kernel_rfl, fun j t ht => by
        rw [Tryd.params6] at ht
        have hm : t ∈ [46, 35] := by simpa using Array.mem_of_getElem? ht
        have hall : ([46, 35].all fun u => !Tryd.prog.wantsStandIn u) = true := by kernel_rfl
        exact (show Tryd.prog.wantsStandIn t = false by simpa using List.all_eq_true.1 hall t hm)⟩)
    (by kernel_rfl)
end
end Go.Proofs.YthafcbbkjdbomaaDoor.V
