import Derived.Test.YthafcbbkjdbomaaDoorM2
namespace Go.Proofs.YthafcbbkjdbomaaDoor.V
open Go Go.RowKit Go.Proofs.YthafcbbkjdbomaaDoorW.PrintLast
open Go.Proofs
set_option linter.unusedVariables false
set_option linter.unusedSimpArgs false
attribute [local irreducible] awp
set_option maxRecDepth 100000
theorem c75u (l : List Co) (nm : ByteArray) (hl : l.length ≤ 1000) (a : Int) (t : Bool) (ha : (if fiC nm l < 0 then 0 else fiC nm l) = a) (ht : decide (0 ≤ fiC nm l) = t) : PC Tryd.prog 75 [xRow l.length 3 (elemsOf (l.map cCo)), A.str nm] [] (fun r bx => r = .tup [([xI a], false), ([xB t], false)] ∧ bx = []) := by
  subst ha ht
  exact c75 l nm hl
/-- Is a predicate's column there, and of the right type? -/
def tyB (l : List Co) (p : Pr) : Bool := if p.col = ⟨#[]⟩ then true else if fiC p.col l < 0 then false else if p.op = 2 then decide ((l.getD (fiC p.col l).toNat ⟨⟨#[]⟩, 0, false⟩).ty = p.kind) else if p.op = 4 then decide ((l.getD (fiC p.col l).toNat ⟨⟨#[]⟩, 0, false⟩).ty = 3) else true
set_option maxHeartbeats 4000000 in
theorem c49 (l : List Co) (p : Pr) (hl : l.length ≤ 1000) : PC Tryd.prog 49 [xRow l.length 3 (elemsOf (l.map cCo)), aPr p] [] (fun r bx => r = A.bool (tyB l p) ∧ bx = []) := by
  refine enter (rs := [.tmp 4]) mx Tryd.func49 Tryd.ntmps49 fun Q0 hQ0 => ?_
  refine sq fun _ _ => ?_
  refine rg (sg ?_)
  refine nx ?_
  refine sq fun _ _ => ?_
  refine sq fun _ _ => ?_
  refine rg (sg ?_)
  refine nx ?_
  refine cb (fun h1 => ?_) (fun h1 => ?_)
  · refine sq fun _ _ => ?_
    refine rg (sg ?_)
    refine nx ?_
    refine rt (sg ?_)
    refine f1 (g := sg ?_)
    exact ax [] ⟨congrArg A.bool (by simp [tyB, h1]), rfl⟩
  · by_cases hf : fiC p.col l < 0
    · have ha : (if fiC p.col l < 0 then 0 else fiC p.col l) = 0 := if_pos hf
      have ht : decide (0 ≤ fiC p.col l) = false := decide_eq_false (by omega)
      refine sk (sg ?_)
      refine nx ?_
      refine sq fun _ _ => ?_
      refine rg (sg ?_)
      refine cl [] (sg ?_)
      refine (c75u l p.col hl _ _ ha ht).mono ?_
      rintro r bx ⟨rfl, rfl⟩
      refine sg ?_
      refine nx ?_
      refine sq fun _ _ => ?_
      refine bl ?_
      refine sq fun _ _ => ?_
      refine rg (sg ?_)
      refine nx ?_
      refine ct (hx := ?_)
      refine sq fun _ _ => ?_
      refine rg (sg ?_)
      refine nx ?_
      refine rt (sg ?_)
      refine f1 (g := sg ?_)
      exact ax [] ⟨congrArg A.bool (by simp [tyB, h1, hf]), rfl⟩
    · obtain ⟨i, hi, hfi, -⟩ := fi_in (nm := p.col) (l := l) (by omega)
      have ha : (if fiC p.col l < 0 then 0 else fiC p.col l) = (i : Int) := by rw [if_neg hf, hfi]
      have ht : decide (0 ≤ fiC p.col l) = true := decide_eq_true (by omega)
      have hgd : l.getD (fiC p.col l).toNat ⟨⟨#[]⟩, 0, false⟩ = l[i] := by rw [hfi, Int.toNat_natCast, List.getD_eq_getElem?_getD, List.getElem?_eq_getElem hi]; rfl
      have hgd2 : l[(fiC p.col l).toNat]?.getD ⟨⟨#[]⟩, 0, false⟩ = l[i] := by rw [hfi, Int.toNat_natCast, List.getElem?_eq_getElem hi]; rfl
      have hee := el_at (f := cCo) hi
      refine sk (sg ?_)
      refine nx ?_
      refine sq fun _ _ => ?_
      refine rg (sg ?_)
      refine cl [] (sg ?_)
      refine (c75u l p.col hl _ _ ha ht).mono ?_
      rintro r bx ⟨rfl, rfl⟩
      refine sg ?_
      refine nx ?_
      refine sq fun _ _ => ?_
      refine bl ?_
      refine sq fun _ _ => ?_
      refine rg (sg ?_)
      refine nx ?_
      refine cf (hy := ?_)
      refine sq fun _ _ => ?_
      refine rg (sg ?_)
      refine nx ?_
      refine cb (fun h2 => ?_) (fun h2 => ?_)
      · refine sq fun _ _ => ?_
        refine dr [.take 0, .take 1, .take 2, .take 3, .take 4, .take 5, .take 6, .take 7, .take 8] [] (sg ?_)
        refine and_assoc.2 ?_
        refine And.intro (by first | assumption | omega | rfl | trivial) ?_
        refine And.intro (by first | assumption | omega | rfl | trivial) ?_
        simp (disch := omega) only [el_at]
        refine sg ?_
        refine nx ?_
        refine rt (sg ?_)
        refine f1 (g := sg ?_)
        exact ax [] ⟨congrArg A.bool (by simp [tyB, h1, hf, h2, hgd2]), rfl⟩
      · refine sq fun _ _ => ?_
        refine rg (sg ?_)
        refine nx ?_
        refine cb (fun h4 => ?_) (fun h4 => ?_)
        · refine sq fun _ _ => ?_
          refine rg (sg ?_)
          refine and_assoc.2 ?_
          refine And.intro (by first | assumption | omega | rfl | trivial) ?_
          refine And.intro (by first | assumption | omega | rfl | trivial) ?_
          simp (disch := omega) only [el_at]
          refine sg ?_
          refine nx ?_
          refine rt (sg ?_)
          refine f1 (g := sg ?_)
          exact ax [] ⟨congrArg A.bool (by simp [tyB, h1, hf, h4, hgd2]), rfl⟩
        · refine sk (sg ?_)
          refine nx ?_
          refine sq fun _ _ => ?_
          refine rg (sg ?_)
          refine nx ?_
          refine rt ?_
          refine f1 (g := sg ?_)
          exact ax [] ⟨congrArg A.bool (by simp [tyB, h1, hf, h2, h4]), rfl⟩
theorem c48 (l : List Co) (p : Pr) (hl : l.length ≤ 1000) : PC Tryd.prog 48 [aPr p, .one (.ptr 0 0)] [.var [.c (.sl l.length 3 (elemsOf (l.map cCo)))] 46] (fun r bx => r = A.bool (tyB l p) ∧ bx = [.var [.c (.sl l.length 3 (elemsOf (l.map cCo)))] 46]) := by
  refine enter (rs := [.tmp 3]) mx Tryd.func48 Tryd.ntmps48 fun Q0 hQ0 => ?_
  refine sq fun _ _ => ?_
  refine rg (sg ?_)
  refine nx ?_
  refine sq fun _ _ => ?_
  refine rg (sg ?_)
  refine cl [] (sg ?_)
  refine (c49 _ _ (by first | assumption | omega | trivial | rfl)).mono ?_
  rintro r bx ⟨rfl, rfl⟩
  refine sg ?_
  refine nx ?_
  refine rt ?_
  refine f1 (g := sg ?_)
  exact ax [] ⟨rfl, rfl⟩
def evT (g : Pr → Bool) : Nat → Pr → Bool
  | 0, _ => false
  | d + 1, p => g p && p.kids.all (evT g d)
theorem deps_mem : ∀ {l : List Pr} {x : Pr}, x ∈ l → x.dep ≤ deps l
  | y :: r, x, h => by
    rw [deps]
    rcases List.mem_cons.1 h with rfl | h
    · omega
    · have := deps_mem h
      omega
theorem evT_all (g : Pr → Bool) : ∀ (d : Nat) (p : Pr), p.dep ≤ d → evT g d p = allP g p
  | 0, p, h => by
    have := dep_eq p
    omega
  | d + 1, p, h => by
    have hd := dep_eq p
    rw [allP_eq]
    unfold evT
    congr 1
    rw [Bool.eq_iff_iff, List.all_eq_true, List.all_eq_true]
    constructor
    · intro h1 x hx
      rw [← evT_all g d x (by have := deps_mem hx; omega)]
      exact h1 x hx
    · intro h1 x hx
      rw [evT_all g d x (by have := deps_mem hx; omega)]
      exact h1 x hx
theorem c41fits (l : List Co) (hl : l.length ≤ 1000) (d : Nat) : ∀ (p : Pr), Sm p → d ≤ 100 → PC Tryd.prog 41 [aPr p, A.int .i64 d, .one (.fn 48 [0])] [.var [.c (.sl l.length 3 (elemsOf (l.map cCo)))] 46] (fun r bx => r = A.bool (evT (tyB l) d p) ∧ bx = [.var [.c (.sl l.length 3 (elemsOf (l.map cCo)))] 46]) := by
  induction d with
  | zero =>
    intro p hp hd
    refine enter (rs := [.tmp 6]) mx Tryd.func41 Tryd.ntmps41 fun Q0 hQ0 => ?_
    refine sq fun _ _ => ?_
    refine rg (sg ?_)
    refine nx ?_
    refine sq fun _ _ => ?_
    refine sq fun _ _ => ?_
    refine rg (sg ?_)
    refine nx ?_
    refine ct (hx := ?_)
    refine sq fun _ _ => ?_
    refine rg (sg ?_)
    refine nx ?_
    refine rt (sg ?_)
    refine f1 (g := sg ?_)
    exact ax [] ⟨rfl, rfl⟩
  | succ d ih =>
    intro p hp hd
    have hlen := hp.len
    have hd1 : ¬ (((d + 1 : Nat) : Int) < 1) := by omega
    have he0 : evT (tyB l) (d + 1) p = (tyB l p && p.kids.all (evT (tyB l) d)) := rfl
    have hwd : IntKind.i64.wrap (((d + 1 : Nat) : Int) - 1) = (d : Int) := by rw [IntKind.wrap_i64]; omega
    refine enter (rs := [.tmp 6]) mx Tryd.func41 Tryd.ntmps41 fun Q0 hQ0 => ?_
    refine sq fun _ _ => ?_
    refine rg (sg ?_)
    refine nx ?_
    refine sq fun _ _ => ?_
    refine sq fun _ _ => ?_
    refine rgs 6 ?_
    simp only [go_sem, Nat.reduceAdd, Nat.reduceSub, Nat.reduceMul, Nat.reduceLT, Nat.reduceLeDiff, Nat.reduceEqDiff, reduceIte, reduceCtorEq, if_true, if_false, Int.reduceEq, Int.reduceLT, Int.reduceLE, Int.reduceAdd, Int.reduceSub, Int.reduceMul, Int.reduceNeg, Int.reduceToNat, decide_true, decide_false, Nat.reduceBEq, hd1, List.take_succ_cons, List.take_zero, List.drop_succ_cons, List.drop_zero]
    refine cl [0] (sg ?_)
    refine (c48 _ _ (by first | assumption | omega | trivial | rfl)).mono ?_
    rintro r bx ⟨rfl, rfl⟩
    refine sg ?_
    refine hrl (sg ?_)
    refine nx ?_
    refine cb (fun h1 => ?_) (fun h1 => ?_)
    · refine sq fun _ _ => ?_
      refine rg (sg ?_)
      refine nx ?_
      refine rt (sg ?_)
      refine f1 (g := sg ?_)
      exact ax [] ⟨by rw [he0, h1]; rfl, rfl⟩
    · rw [Bool.not_eq_false] at h1
      rw [he0, h1, Bool.true_and] at hQ0
      refine sk (sg ?_)
      refine nx ?_
      refine sq fun _ _ => ?_
      refine sq fun _ _ => ?_
      refine rg (sg ?_)
      refine nx ?_
      refine bl ?_
      refine lp [1, 2, 18, 19, 20] [] (fun k σ => ∃ (i : Nat), k = p.kids.length - i ∧ i ≤ p.kids.length ∧ p.kids.all (evT (tyB l) d) = (p.kids.drop i).all (evT (tyB l) d) ∧ σ = ⟨31, 1, [(1, A.int .i64 ((d + 1 : Nat) : Int)), (2, A.one (L.fn 48 [0])), (18, xRow p.kids.length 9 (elemsOf (List.map cPr p.kids))), (19, A.int .i64 p.kids.length), (20, A.int .i64 i)], [.var [.c (.sl l.length 3 (elemsOf (l.map cCo)))] 46]⟩) p.kids.length ?_ ?_
      · exact ⟨0, by omega, by omega, rfl, keq⟩
      · rintro k σ' ⟨i, hk, hi, hev, rfl⟩ Q1 hQ1
        refine sq fun _ _ => ?_
        refine rg (sg ?_)
        refine nx ?_
        refine sq fun _ _ => ?_
        refine cb (fun h => ?_) (fun h => ?_)
        · have hin : i < p.kids.length := by omega
          have hwi : IntKind.i64.wrap ((i : Int) + 1) = ((i + 1 : Nat) : Int) := wrap_succ (by omega)
          have hee := el_at (f := cPr) hin
          rw [List.drop_eq_getElem_cons hin, List.all_cons] at hev
          refine sk (sg ?_)
          refine nx ?_
          refine sq fun _ _ => ?_
          refine bl ?_
          refine sq fun _ _ => ?_
          refine rg (sg ?_)
          refine and_assoc.2 ?_
          refine And.intro (by first | assumption | omega | rfl | trivial) ?_
          refine And.intro (by first | assumption | omega | rfl | trivial) ?_
          simp (disch := omega) only [el_at]
          refine sg ?_
          refine nx ?_
          refine sq fun _ _ => ?_
          refine rg (sg ?_)
          refine cl [0] (sg ?_)
          rw [hwd]
          refine (ih p.kids[i] (hp.kid _ (List.getElem_mem hin)) (by omega)).mono ?_
          rintro r bx ⟨rfl, rfl⟩
          refine sg ?_
          refine nx ?_
          refine cb (fun h3 => ?_) (fun h3 => ?_)
          · rw [h3, Bool.false_and] at hev
            rw [hev] at hQ0
            refine sq fun _ _ => ?_
            refine rg (sg ?_)
            refine nx ?_
            refine rt (sg ?_)
            refine lr (g := sg ?_)
            refine f1 (g := sg ?_)
            exact ax [] ⟨rfl, rfl⟩
          · rw [Bool.not_eq_false] at h3
            rw [h3, Bool.true_and] at hev
            refine sk (sg ?_)
            refine nx ?_
            refine rg (sg ?_)
            simp (disch := omega) only [wrap_succ]
            refine ln (p.kids.length - (i + 1)) [] ?_ ?_
            · omega
            exact ⟨i + 1, by omega, by omega, hev, keq⟩
        · rw [List.drop_of_length_le (by omega)] at hev
          rw [hev] at hQ0
          refine xt (sg ?_)
          refine lx (g := sg ?_)
          refine nx ?_
          refine sq fun _ _ => ?_
          refine rg (sg ?_)
          refine nx ?_
          refine rt ?_
          refine f1 (g := sg ?_)
          exact ax [] ⟨rfl, rfl⟩
/-- Why it does not fit. -/
noncomputable def ftK (l : List Co) (p : Pr) : Int := if mayP p = false ∨ chK l ≠ 0 then 1 else if allP (tyB l) p = true then 0 else 10
theorem c26 (l : List Co) (p : Pr) (hp : Sm p) (hl : l.length ≤ 1000) (hz : ∀ (i : Nat) (h : i < l.length), l[i].nm.size ≤ 100) : PC Tryd.prog 26 [xRow l.length 3 (elemsOf (l.map cCo)), aPr p] [] (fun r bx => r = A.int .i64 (ftK l p) ∧ bx = []) := by
  refine enter (rs := [.tmp 4]) mx Tryd.func26 Tryd.ntmps26 fun Q0 hQ0 => ?_
  refine sq fun _ _ => ?_
  refine rg (sg ?_)
  refine nx ?_
  refine sq fun _ _ => ?_
  refine sq fun _ _ => ?_
  refine rgs 2 (sgt ?_)
  refine cl [] (sg ?_)
  refine (c24 _ (by first | assumption | omega | trivial | rfl)).mono ?_
  rintro r bx ⟨rfl, rfl⟩
  refine sg ?_
  refine hr 4 (sgt ?_)
  simp only [undef]
  refine ⟨fun hm => ⟨hm, ?_⟩, fun hm => ?_⟩
  · refine cl [] (sg ?_)
    refine (c47 _ (by first | assumption | omega | trivial | rfl) (by first | assumption | omega | trivial | rfl)).mono ?_
    rintro r bx ⟨rfl, rfl⟩
    refine sg ?_
    refine hrl (sg ?_)
    refine nx ?_
    refine cb (fun hk => ?_) (fun hk => ?_)
    · have hf : ftK l p = 1 := if_pos hk
      refine sq fun _ _ => ?_
      refine rg (sg ?_)
      refine nx ?_
      refine rt (sg ?_)
      refine f1 (g := sg ?_)
      exact ax [] ⟨by rw [hf]; rfl, rfl⟩
    · have hk0 : chK l = 0 := Decidable.not_not.1 fun h => hk (.inr h)
      obtain ⟨-, hdep, -⟩ := sz_cnt hm
      have hev := evT_all (tyB l) 6 p hdep
      have hnf : ¬ (mayP p = false ∨ chK l ≠ 0) := fun h => h.elim (fun h => by rw [hm] at h; cases h) (fun h => h hk0)
      refine sk (sg ?_)
      refine nx ?_
      refine sq fun _ _ => ?_
      refine sq fun _ _ => ?_
      refine rg (sg ?_)
      refine cl [0] (sg ?_)
      refine (c41fits l hl 6 p hp (by omega)).mono ?_
      rintro r bx ⟨rfl, rfl⟩
      refine sg ?_
      refine nx ?_
      refine cb (fun ht => ?_) (fun ht => ?_)
      · have hf : ftK l p = 10 := by
          unfold ftK
          rw [if_neg hnf, if_neg (by rw [← hev, ht]; decide)]
        refine sq fun _ _ => ?_
        refine rg (sg ?_)
        refine nx ?_
        refine rt (sg ?_)
        refine f1 (g := sg ?_)
        exact ax [] ⟨by rw [hf]; rfl, rfl⟩
      · have hf : ftK l p = 0 := by
          unfold ftK
          rw [if_neg hnf, if_pos (by rw [← hev]; simpa using ht)]
        refine sk (sg ?_)
        refine nx ?_
        refine sq fun _ _ => ?_
        refine rg (sg ?_)
        refine nx ?_
        refine rt ?_
        refine f1 (g := sg ?_)
        exact ax [] ⟨by rw [hf]; rfl, rfl⟩
  · have hf : ftK l p = 1 := if_pos (.inl hm)
    refine hrl ?_
    simp only [go_sem, Nat.reduceAdd, Nat.reduceSub, Nat.reduceMul, Nat.reduceLT, Nat.reduceLeDiff, Nat.reduceEqDiff, reduceIte, reduceCtorEq, if_true, if_false, Int.reduceEq, Int.reduceLT, Int.reduceLE, Int.reduceAdd, Int.reduceSub, Int.reduceMul, Int.reduceNeg, Int.reduceToNat, decide_true, decide_false, Nat.reduceBEq, hm]
    refine nx ?_
    refine ct (hx := ?_)
    refine sq fun _ _ => ?_
    refine rg (sg ?_)
    refine nx ?_
    refine rt (sg ?_)
    refine f1 (g := sg ?_)
    exact ax [] ⟨by rw [hf]; rfl, rfl⟩

end Go.Proofs.YthafcbbkjdbomaaDoor.V
