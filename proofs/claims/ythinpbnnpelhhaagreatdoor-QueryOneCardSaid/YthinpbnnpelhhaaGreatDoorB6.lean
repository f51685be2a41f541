import Derived.Test.YthinpbnnpelhhaaGreatDoorB5
namespace Go.Proofs.YthinpbnnpelhhaaGreatDoor.V
open Go Go.RowKit Go.Proofs.YthinpbnnpelhhaaGreatDoorW.PrintLast
open Go.Proofs
set_option linter.unusedVariables false
set_option linter.unusedSimpArgs false
attribute [local irreducible] awp
--EL
set_option maxRecDepth 100000
theorem nd_eq (p : Pr) : (decide (FlP p ∧ RsP p) && kidB p) = ndP p := by
  by_cases h : 1 ≤ p.op ∧ p.op ≤ 7
  · have hc : p.op = 1 ∨ p.op = 2 ∨ p.op = 3 ∨ p.op = 4 ∨ p.op = 5 ∨ p.op = 6 ∨ p.op = 7 := by omega
    rcases hc with hc | hc | hc | hc | hc | hc | hc <;>
    · rw [Bool.eq_iff_iff]
      simp [FlP, RsP, kidB, ndP, HdP, V0, hc, e0]
      try grind
  · have h1 : ¬ RsP p := by
      unfold RsP
      omega
    have h2 : ¬ HdP p := by
      unfold HdP
      omega
    unfold ndP
    rw [decide_eq_false (fun h => h1 h.2), decide_eq_false h2, Bool.false_and, Bool.false_and]
theorem c48 (p : Pr) (n : Int) (h0 : 0 ≤ n) (hn : n ≤ 16) (hc : p.col.size ≤ 1000) (hl : p.kids.length ≤ 1000) : PC Tryz.prog 48 [aPr p, .one (.ptr 0 0)] [.var [xI n] 3] (fun r bx => r = A.bool (decide (n + 1 ≤ 16) && ndP p) ∧ bx = [.var [xI (n + 1)] 3]) := by
  have hw : IntKind.i64.wrap (n + 1) = n + 1 := by rw [IntKind.wrap_i64]; omega
  refine enter (rs := [.tmp 3]) mx Tryz.func48 Tryz.ntmps48 fun Q0 hQ0 => ?_
  refine sq fun _ _ => ?_
  refine rg (sg ?_)
  refine nx ?_
  refine sq fun _ _ => ?_
  refine rg (sg ?_)
  refine nx ?_
  refine sq fun _ _ => ?_
  by_cases h1 : n + 1 ≤ 16
  · refine rgs 5 ?_
    simp only [go_sem, Nat.reduceAdd, Nat.reduceSub, Nat.reduceMul, Nat.reduceLT, Nat.reduceLeDiff, Nat.reduceEqDiff, reduceIte, reduceCtorEq, if_true, if_false, Int.reduceEq, Int.reduceLT, Int.reduceLE, Int.reduceAdd, Int.reduceSub, Int.reduceMul, Int.reduceNeg, Int.reduceToNat, decide_true, decide_false, Nat.reduceBEq, hw, h1, List.take_succ_cons, List.take_zero, List.drop_succ_cons, List.drop_zero]
    refine cl [] (sg ?_)
    refine (c49 _ (by first | assumption | omega | trivial | rfl)).mono ?_
    rintro r bx ⟨rfl, rfl⟩
    refine sg ?_
    refine hr 4 (sgt ?_)
    simp only [undef]
    refine ⟨fun hf => ⟨hf, ?_⟩, fun hf => ?_⟩
    · refine cl [] (sg ?_)
      refine (c50 _ (by first | assumption | omega | trivial | rfl)).mono ?_
      rintro r bx ⟨rfl, rfl⟩
      refine sg ?_
      refine hrl (sg ?_)
      refine nx ?_
      refine rt ?_
      refine f1 (g := sg ?_)
      exact ax [] ⟨congrArg A.bool (by rw [← nd_eq, decide_eq_true h1, decide_eq_true hf, Bool.true_and, Bool.true_and]), rfl⟩
    · refine hrl ?_
      simp only [go_sem, Nat.reduceAdd, Nat.reduceSub, Nat.reduceMul, Nat.reduceLT, Nat.reduceLeDiff, Nat.reduceEqDiff, reduceIte, reduceCtorEq, if_true, if_false, Int.reduceEq, Int.reduceLT, Int.reduceLE, Int.reduceAdd, Int.reduceSub, Int.reduceMul, Int.reduceNeg, Int.reduceToNat, decide_true, decide_false, Nat.reduceBEq, hf]
      refine nx ?_
      refine rt ?_
      refine f1 (g := sg ?_)
      exact ax [] ⟨congrArg A.bool (by rw [← nd_eq, decide_eq_false hf, Bool.false_and, Bool.and_false]), rfl⟩
  · refine rg ?_
    simp only [go_sem, Nat.reduceAdd, Nat.reduceSub, Nat.reduceMul, Nat.reduceLT, Nat.reduceLeDiff, Nat.reduceEqDiff, reduceIte, reduceCtorEq, if_true, if_false, Int.reduceEq, Int.reduceLT, Int.reduceLE, Int.reduceAdd, Int.reduceSub, Int.reduceMul, Int.reduceNeg, Int.reduceToNat, decide_true, decide_false, Nat.reduceBEq, hw, h1]
    simp only [undef]
    refine sg ?_
    refine nx ?_
    refine rt ?_
    refine f1 (g := sg ?_)
    exact ax [] ⟨congrArg A.bool (by rw [decide_eq_false h1, Bool.false_and]), rfl⟩
theorem c47may (d : Nat) : ∀ (p : Pr) (n : Int), Sm p → 0 ≤ n → n ≤ 16 → d ≤ 100 → PC Tryz.prog 47 [aPr p, A.int .i64 d, .one (.fn 48 [0])] [.var [xI n] 3] (fun r bx => r = A.bool (evP ndP d n p).1 ∧ bx = [.var [xI (evP ndP d n p).2] 3]) := by
  induction d with
  | zero =>
    intro p n hp h0 hn hd
    refine enter (rs := [.tmp 6]) mx Tryz.func47 Tryz.ntmps47 fun Q0 hQ0 => ?_
    refine sq fun _ _ => ?_
    refine rg (sg ?_)
    refine nx ?_
    refine sq fun _ _ => ?_
    refine sq fun _ _ => ?_
    refine rg (sg ?_)
    refine nx ?_
    refine ct (hx := ?_)
    refine sq fun _ _ => ?_
    refine rg (sg ?_)
    refine nx ?_
    refine rt (sg ?_)
    refine f1 (g := sg ?_)
    exact ax [] ⟨rfl, rfl⟩
  | succ d ih =>
    intro p n hp h0 hn hd
    have hlen := hp.len
    have hcol := hp.col
    have hd1 : ¬ (((d + 1 : Nat) : Int) < 1) := by omega
    have hc1 : p.col.size ≤ 1000 := by omega
    have hl1 : p.kids.length ≤ 1000 := by omega
    refine enter (rs := [.tmp 6]) mx Tryz.func47 Tryz.ntmps47 fun Q0 hQ0 => ?_
    refine sq fun _ _ => ?_
    refine rg (sg ?_)
    refine nx ?_
    refine sq fun _ _ => ?_
    refine sq fun _ _ => ?_
    refine rgs 6 ?_
    simp only [go_sem, Nat.reduceAdd, Nat.reduceSub, Nat.reduceMul, Nat.reduceLT, Nat.reduceLeDiff, Nat.reduceEqDiff, reduceIte, reduceCtorEq, if_true, if_false, Int.reduceEq, Int.reduceLT, Int.reduceLE, Int.reduceAdd, Int.reduceSub, Int.reduceMul, Int.reduceNeg, Int.reduceToNat, decide_true, decide_false, Nat.reduceBEq, hd1, List.take_succ_cons, List.take_zero, List.drop_succ_cons, List.drop_zero]
    refine cl [0] (sg ?_)
    refine (c48 _ _ (by first | assumption | omega | trivial | rfl) (by first | assumption | omega | trivial | rfl) (by first | assumption | omega | trivial | rfl) (by first | assumption | omega | trivial | rfl)).mono ?_
    rintro r bx ⟨rfl, rfl⟩
    refine sg ?_
    refine hrl (sg ?_)
    refine nx ?_
    refine cb (fun h1 => ?_) (fun h1 => ?_)
    · refine sq fun _ _ => ?_
      refine rg (sg ?_)
      refine nx ?_
      refine rt (sg ?_)
      refine f1 (g := sg ?_)
      have he : evP ndP (d + 1) n p = (false, n + 1) := by
        have h2 : ¬ (n + 1 ≤ 16 ∧ ndP p = true) := fun h => by rw [decide_eq_true h.1, h.2] at h1; cases h1
        show (if n + 1 ≤ 16 ∧ ndP p = true then _ else _) = _
        rw [if_neg h2]
      exact ax [] ⟨by rw [he]; rfl, by rw [he]; rfl⟩
    · have h2 : n + 1 ≤ 16 ∧ ndP p = true := by
        rw [Bool.not_eq_false, Bool.and_eq_true, decide_eq_true_eq] at h1
        exact h1
      have he : evP ndP (d + 1) n p = evL (evP ndP d) (n + 1) p.kids := by
        show (if n + 1 ≤ 16 ∧ ndP p = true then _ else _) = _
        rw [if_pos h2]
      have hwd : IntKind.i64.wrap (((d + 1 : Nat) : Int) - 1) = (d : Int) := by rw [IntKind.wrap_i64]; omega
      rw [he] at hQ0
      refine sk (sg ?_)
      refine nx ?_
      refine sq fun _ _ => ?_
      refine sq fun _ _ => ?_
      refine rg (sg ?_)
      refine nx ?_
      refine bl ?_
      refine lp [1, 2, 18, 19, 20] [] (fun k σ => ∃ (i : Nat) (m : Int), k = p.kids.length - i ∧ i ≤ p.kids.length ∧ 0 ≤ m ∧ m ≤ 16 ∧ evL (evP ndP d) (n + 1) p.kids = evL (evP ndP d) m (p.kids.drop i) ∧ σ = ⟨31, 1, [(1, A.int .i64 ((d + 1 : Nat) : Int)), (2, A.one (L.fn 48 [0])), (18, xRow p.kids.length 9 (elemsOf (List.map cPr p.kids))), (19, A.int .i64 p.kids.length), (20, A.int .i64 i)], [.var [xI m] 3]⟩) p.kids.length ?_ ?_
      · exact ⟨0, n + 1, by omega, by omega, by omega, h2.1, rfl, keq⟩
      · rintro k σ' ⟨i, m, hk, hi, hm0, hm, hev, rfl⟩ Q1 hQ1
        refine sq fun _ _ => ?_
        refine rg (sg ?_)
        refine nx ?_
        refine sq fun _ _ => ?_
        refine cb (fun h => ?_) (fun h => ?_)
        · have hin : i < p.kids.length := by omega
          have hwi : IntKind.i64.wrap ((i : Int) + 1) = ((i + 1 : Nat) : Int) := wrap_succ (by omega)
          have hee := el_at (f := cPr) hin
          have hdr : p.kids.drop i = p.kids[i] :: p.kids.drop (i + 1) := List.drop_eq_getElem_cons hin
          have hn2 := evP_n ndP d m p.kids[i] hm0 hm
          rw [hdr] at hev
          have hdef : evL (evP ndP d) m (p.kids[i] :: p.kids.drop (i + 1)) = if (evP ndP d m p.kids[i]).1 then evL (evP ndP d) (evP ndP d m p.kids[i]).2 (p.kids.drop (i + 1)) else (false, (evP ndP d m p.kids[i]).2) := rfl
          rw [hdef] at hev
          refine sk (sg ?_)
          refine nx ?_
          refine sq fun _ _ => ?_
          refine bl ?_
          refine sq fun _ _ => ?_
          refine rg (sg ?_)
          refine and_assoc.2 ?_
          refine And.intro (by first | assumption | omega | rfl | trivial) ?_
          refine And.intro (by first | assumption | omega | rfl | trivial) ?_
          simp (disch := omega) only [el_at]
          refine sg ?_
          refine nx ?_
          refine sq fun _ _ => ?_
          refine rg (sg ?_)
          refine cl [0] (sg ?_)
          rw [hwd]
          refine (ih p.kids[i] m (hp.kid _ (List.getElem_mem hin)) hm0 hm (by omega)).mono ?_
          rintro r bx ⟨rfl, rfl⟩
          refine sg ?_
          refine nx ?_
          refine cb (fun h3 => ?_) (fun h3 => ?_)
          · rw [h3, if_neg (by decide)] at hev
            rw [hev] at hQ0
            refine sq fun _ _ => ?_
            refine rg (sg ?_)
            refine nx ?_
            refine rt (sg ?_)
            refine lr (g := sg ?_)
            refine f1 (g := sg ?_)
            exact ax [] ⟨rfl, rfl⟩
          · rw [Bool.not_eq_false] at h3
            rw [h3, if_pos rfl] at hev
            refine sk (sg ?_)
            refine nx ?_
            refine rg (sg ?_)
            simp (disch := omega) only [wrap_succ]
            refine ln (p.kids.length - (i + 1)) [] ?_ ?_
            · omega
            exact ⟨i + 1, _, by omega, by omega, hn2.1, hn2.2.2 h3, hev, keq⟩
        · rw [List.drop_of_length_le (by omega)] at hev
          rw [hev] at hQ0
          refine xt (sg ?_)
          refine lx (g := sg ?_)
          refine nx ?_
          refine sq fun _ _ => ?_
          refine rg (sg ?_)
          refine nx ?_
          refine rt ?_
          refine f1 (g := sg ?_)
          exact ax [] ⟨rfl, rfl⟩
theorem c28 (p : Pr) (hp : Sm p) : PC Tryz.prog 28 [aPr p] [] (fun r bx => r = A.bool (mayP p) ∧ bx = []) := by
  refine enter (rs := [.tmp 2]) mx Tryz.func28 Tryz.ntmps28 fun Q0 hQ0 => ?_
  refine sq fun _ _ => ?_
  refine rg (sg ?_)
  refine nx ?_
  refine sq fun _ _ => ?_
  refine rg (sg ?_)
  refine nx ?_
  refine sq fun _ _ => ?_
  refine rg (sg ?_)
  refine cl [1] (sg ?_)
  refine (c47may 6 p 0 hp (by omega) (by omega) (by omega)).mono ?_
  rintro r bx ⟨rfl, rfl⟩
  refine sg ?_
  refine nx ?_
  refine rt ?_
  refine f1 (g := sg ?_)
  exact ax [] ⟨congrArg A.bool (may_same ndP p), rfl⟩
theorem c44at (d : Nat) : ∀ (p : Pr) (m : Int), Sm p → -100 ≤ m → m ≤ 100 → d ≤ 100 → PC Tryz.prog 44 [aPr p, A.int .i64 m, A.int .i64 d] [] (fun r bx => r = A.int .i64 (szP d m p) ∧ bx = []) := by
  induction d with
  | zero =>
    intro p m hp h0 hm hd
    refine enter (rs := [.tmp 6]) mx Tryz.func44 Tryz.ntmps44 fun Q0 hQ0 => ?_
    refine sq fun _ _ => ?_
    refine rg (sg ?_)
    refine nx ?_
    refine sq fun _ _ => ?_
    refine sq fun _ _ => ?_
    refine rg (sg ?_)
    refine nx ?_
    refine ct (hx := ?_)
    refine sq fun _ _ => ?_
    refine rg (sg ?_)
    refine nx ?_
    refine rt (sg ?_)
    refine f1 (g := sg ?_)
    exact ax [] ⟨rfl, rfl⟩
  | succ d ih =>
    intro p m hp h0 hm hd
    have hlen := hp.len
    have hd1 : ¬ (((d + 1 : Nat) : Int) < 1) := by omega
    have he0 : szP (d + 1) m p = if m < 1 then 17 else szL (szP d) m 1 p.kids := rfl
    have hwd : IntKind.i64.wrap (((d + 1 : Nat) : Int) - 1) = (d : Int) := by rw [IntKind.wrap_i64]; omega
    refine enter (rs := [.tmp 6]) mx Tryz.func44 Tryz.ntmps44 fun Q0 hQ0 => ?_
    refine sq fun _ _ => ?_
    refine rg (sg ?_)
    refine nx ?_
    refine sq fun _ _ => ?_
    refine sq fun _ _ => ?_
    refine rg ?_
    simp only [go_sem, Nat.reduceAdd, Nat.reduceSub, Nat.reduceMul, Nat.reduceLT, Nat.reduceLeDiff, Nat.reduceEqDiff, reduceIte, reduceCtorEq, if_true, if_false, Int.reduceEq, Int.reduceLT, Int.reduceLE, Int.reduceAdd, Int.reduceSub, Int.reduceMul, Int.reduceNeg, Int.reduceToNat, decide_true, decide_false, Nat.reduceBEq, hd1]
    refine nx ?_
    refine cb (fun h1 => ?_) (fun h1 => ?_)
    · rw [if_pos h1] at he0
      refine sq fun _ _ => ?_
      refine rg (sg ?_)
      refine nx ?_
      refine rt (sg ?_)
      refine f1 (g := sg ?_)
      exact ax [] ⟨by rw [he0]; rfl, rfl⟩
    · rw [if_neg h1] at he0
      rw [he0] at hQ0
      refine sk (sg ?_)
      refine nx ?_
      refine sq fun _ _ => ?_
      refine rg (sg ?_)
      refine nx ?_
      refine sq fun _ _ => ?_
      refine sq fun _ _ => ?_
      refine rg (sg ?_)
      refine nx ?_
      refine bl ?_
      refine lp [1, 2, 3, 7, 8] [0] (fun k σ => ∃ (i : Nat) (q : Int), k = p.kids.length - i ∧ i ≤ p.kids.length ∧ 1 ≤ q ∧ q ≤ 3000 ∧ szL (szP d) m 1 p.kids = szL (szP d) m q (p.kids.drop i) ∧ σ = ⟨40, 0, [(1, A.int .i64 m), (2, A.int .i64 ((d + 1 : Nat) : Int)), (3, xPtr 0 0), (7, A.int .i64 q), (8, A.int .i64 i)], [.var [xI p.op, xS p.col, xI p.cmp, xB p.val.nl, xI p.val.i, xS p.val.s, xI p.kind, xS p.pat, .c (.sl p.kids.length 9 (elemsOf (p.kids.map cPr)))] 27]⟩) p.kids.length ?_ ?_
      · exact ⟨0, 1, by omega, by omega, by omega, by omega, rfl, keq⟩
      · rintro k σ' ⟨i, q, hk, hi, hq0, hq1, hev, rfl⟩ Q1 hQ1
        refine sq fun _ _ => ?_
        refine sq fun _ _ => ?_
        refine rg (sg ?_)
        refine nx ?_
        refine cb (fun h => ?_) (fun h => ?_)
        · have hin : i < p.kids.length := by omega
          have hwi : IntKind.i64.wrap ((i : Int) + 1) = ((i + 1 : Nat) : Int) := wrap_succ (by omega)
          have hee := el_at (f := cPr) hin
          have hdr : p.kids.drop i = p.kids[i] :: p.kids.drop (i + 1) := List.drop_eq_getElem_cons hin
          have hn1 := szP_pos d (m - q) p.kids[i]
          have hn2 := szP_le d (m - q) p.kids[i]
          have hwm : IntKind.i64.wrap (m - q) = m - q := by rw [IntKind.wrap_i64]; omega
          have hws : IntKind.i64.wrap (q + szP d (m - q) p.kids[i]) = q + szP d (m - q) p.kids[i] := by rw [IntKind.wrap_i64]; omega
          have hdef : szL (szP d) m q (p.kids[i] :: p.kids.drop (i + 1)) = if q ≤ 16 then szL (szP d) m (q + szP d (m - q) p.kids[i]) (p.kids.drop (i + 1)) else q := rfl
          rw [hdr, hdef, if_pos h.2] at hev
          refine sk (sg ?_)
          refine nx ?_
          refine sq fun _ _ => ?_
          refine bl ?_
          refine rg (sg ?_)
          refine and_assoc.2 ?_
          refine And.intro (by first | assumption | omega | rfl | trivial) ?_
          refine And.intro (by first | assumption | omega | rfl | trivial) ?_
          refine cl [] (sg ?_)
          simp (disch := omega) only [el_at]
          refine sg ?_
          rw [hwm, hwd]
          refine (ih p.kids[i] (m - q) (hp.kid _ (List.getElem_mem hin)) (by omega) (by omega) (by omega)).mono ?_
          rintro r bx ⟨rfl, rfl⟩
          refine sg ?_
          rw [hws]
          refine nx ?_
          refine rg (sg ?_)
          simp (disch := omega) only [wrap_succ]
          refine ln (p.kids.length - (i + 1)) [0] ?_ ?_
          · omega
          exact ⟨i + 1, _, by omega, by omega, by omega, by omega, hev, keq⟩
        · have hfin : szL (szP d) m q (p.kids.drop i) = q := by
            by_cases hil : i < p.kids.length
            · rw [List.drop_eq_getElem_cons hil]
              show (if q ≤ 16 then _ else q) = q
              rw [if_neg (fun h2 => h ⟨by omega, h2⟩)]
            · rw [List.drop_of_length_le (by omega)]
              rfl
          rw [hev, hfin] at hQ0
          refine xt (sg ?_)
          refine lx (g := sg ?_)
          refine nx ?_
          refine sq fun _ _ => ?_
          refine rg (sg ?_)
          refine nx ?_
          refine rt ?_
          refine f1 (g := sg ?_)
          exact ax [] ⟨rfl, rfl⟩

end Go.Proofs.YthinpbnnpelhhaaGreatDoor.V
