import Derived.Test.YthinpbnnpelhhaaGreatDoorB6
import Derived.Test.YthinpbnnpelhhaaGreatDoorV24
namespace Go.Proofs.YthinpbnnpelhhaaGreatDoor.V
open Go Go.RowKit Go.Proofs.YthinpbnnpelhhaaGreatDoorW.PrintLast
open Go.Proofs
set_option linter.unusedVariables false
set_option linter.unusedSimpArgs false
attribute [local irreducible] awp
set_option maxRecDepth 100000
theorem one_false {p : Pr} (h : ¬ HdP p) : false = oneP p := by
  rw [oneP_eq]
  unfold ndP
  rw [decide_eq_false h, Bool.false_and, Bool.false_and]
theorem one_leaf {p : Pr} (h : HdP p) (h6 : p.op < 6) (hk : p.kids.length = 0) : true = oneP p := by
  have hl : p.kids = [] := List.eq_nil_of_length_eq_zero hk
  rw [oneP_eq]
  unfold ndP
  rw [decide_eq_true h, hl]
  simp
theorem one_all {p : Pr} (h : HdP p) (hk : ∀ x ∈ p.kids, oneP x = true ∧ ¬ (6 ≤ p.op ∧ x.op = p.op)) : true = oneP p := by
  rw [oneP_eq, Eq.comm, Bool.and_eq_true, List.all_eq_true]
  refine ⟨?_, fun x hx => (hk x hx).1⟩
  unfold ndP
  rw [decide_eq_true h, Bool.true_and, Bool.not_eq_true', Bool.and_eq_false_iff]
  by_cases h6 : 6 ≤ p.op
  · right
    rw [List.any_eq_false]
    intro x hx h2
    exact (hk x hx).2 ⟨h6, of_decide_eq_true h2⟩
  · left
    exact decide_eq_false h6
theorem one_kid {p : Pr} {x : Pr} (hx : x ∈ p.kids) (h : ¬ (oneP x = true ∧ ¬ (6 ≤ p.op ∧ x.op = p.op))) : false = oneP p := by
  rw [Eq.comm, ← Bool.not_eq_true]
  intro ho
  refine h ⟨oneP_kid ho x hx, fun h2 => ?_⟩
  rw [oneP_eq, Bool.and_eq_true] at ho
  have h3 := ho.1
  unfold ndP at h3
  rw [Bool.and_eq_true, Bool.not_eq_true', Bool.and_eq_false_iff] at h3
  rcases h3.2 with h4 | h4
  · exact absurd h2.1 (of_decide_eq_false h4)
  · exact List.any_eq_false.1 h4 x hx (decide_eq_true h2.2)
theorem lt_nat0 {a : Nat} (h : ¬ (0 : Int) < (a : Int)) : a = 0 := by omega
theorem hd1 {p : Pr} (h : p.op = 1) : HdP p ↔ (p.op < 5 → p.kids.length = 0) ∧ flatB p.op p.col p.cmp p.val.nl p.val.i p.val.s p.kind p.pat p.op ⟨#[]⟩ 0 false 0 ⟨#[]⟩ 0 ⟨#[]⟩ = true := by
  simp [HdP, flatB, V0, h]
  grind
theorem hd2 {p : Pr} (h : p.op = 2) (hn : nameB p.col = true) (h1 : ¬ p.cmp < 1) (h2 : ¬ 6 < p.cmp) (hm : MayC p.kind false p.val) : HdP p ↔ (p.op < 5 → p.kids.length = 0) ∧ flatB p.op p.col p.cmp p.val.nl p.val.i p.val.s p.kind p.pat p.op p.col p.cmp p.val.nl p.val.i p.val.s p.kind ⟨#[]⟩ = true := by
  have h3 : 1 ≤ p.cmp := by omega
  have h4 : p.cmp ≤ 6 := by omega
  simp [HdP, flatB, V0, h, hn, hm, h3, h4]
  grind
theorem hd3 {p : Pr} (h : p.op = 3) (hn : nameB p.col = true) : HdP p ↔ (p.op < 5 → p.kids.length = 0) ∧ flatB p.op p.col p.cmp p.val.nl p.val.i p.val.s p.kind p.pat p.op p.col 0 false 0 ⟨#[]⟩ 0 ⟨#[]⟩ = true := by
  simp [HdP, flatB, V0, h, hn]
  grind
theorem hd4 {p : Pr} (h : p.op = 4) (hn : nameB p.col = true) (hs : p.pat.size ≤ 40) : HdP p ↔ (p.op < 5 → p.kids.length = 0) ∧ flatB p.op p.col p.cmp p.val.nl p.val.i p.val.s p.kind p.pat p.op p.col 0 false 0 ⟨#[]⟩ 0 p.pat = true := by
  simp [HdP, flatB, V0, h, hn, hs]
  grind
theorem hd5 {p : Pr} (h : p.op = 5) (hl : p.kids.length = 1) : HdP p ↔ (p.op < 5 → p.kids.length = 0) ∧ flatB p.op p.col p.cmp p.val.nl p.val.i p.val.s p.kind p.pat p.op ⟨#[]⟩ 0 false 0 ⟨#[]⟩ 0 ⟨#[]⟩ = true := by
  simp [HdP, flatB, V0, h, hl]
theorem hd6 {p : Pr} (h : p.op = 6 ∨ p.op = 7) (hl : 2 ≤ p.kids.length) : HdP p ↔ (p.op < 5 → p.kids.length = 0) ∧ flatB p.op p.col p.cmp p.val.nl p.val.i p.val.s p.kind p.pat p.op ⟨#[]⟩ 0 false 0 ⟨#[]⟩ 0 ⟨#[]⟩ = true := by
  rcases h with h | h <;> simp [HdP, flatB, V0, h, hl]
abbrev nilK : L := .c (.v (.slice none 0 0))
set_option maxHeartbeats 16000000 in
theorem c45at : ∀ p : Pr, Sm p → PC Tryz.prog 45 [aPr p] [] (fun r bx => r = A.bool (oneP p) ∧ bx = []) := by
  refine Pr.by_kids fun p ih hp => ?_
  have hlen := hp.len
  have hcol := hp.col
  have hcol1 : p.col.size ≤ 1000 := by omega
  refine enter (rs := [.tmp 2]) mx Tryz.func45 Tryz.ntmps45 fun Q0 hQ0 => ?_
  refine sq fun _ _ => ?_
  refine rg (sg ?_)
  refine nx ?_
  refine sq fun _ _ => ?_
  refine rg (sg ?_)
  refine nx ?_
  refine sq fun _ _ => ?_
  refine rg (sg ?_)
  refine nx ?_
  refine sq fun _ _ => ?_
  refine rg (sg ?_)
  refine nx ?_
  refine sq fun K hK => ?_
  have key : ∀ (σ : St) (ic : ByteArray) (im : Int) (ivn : Bool) (ivi : Int) (ivs : ByteArray) (ik : Int) (ipt : ByteArray), (HdP p ↔ (p.op < 5 → p.kids.length = 0) ∧ flatB p.op p.col p.cmp p.val.nl p.val.i p.val.s p.kind p.pat p.op ic im ivn ivi ivs ik ipt = true) →
      σ.good [0, 1, 2] → σ.keep [1, 3, 4] [0, 1, 2] = ⟨138, 0, [(1, xPtr 0 0), (3, xPtr 1 0), (4, xPtr 2 0)], [.var [xI p.op, xS p.col, xI p.cmp, xB p.val.nl, xI p.val.i, xS p.val.s, xI p.kind, xS p.pat, .c (.sl p.kids.length 9 (elemsOf (p.kids.map cPr)))] 27, .var [xI p.op, xS p.col, xI p.cmp, xB p.val.nl, xI p.val.i, xS p.val.s, xI p.kind, xS p.pat, nilK] 27, .var [xI p.op, xS ic, xI im, xB ivn, xI ivi, xS ivs, xI ik, xS ipt, nilK] 27]⟩ → K σ := by
    intro σ ic im ivn ivi ivs ik ipt hdi hgood hσ
    refine kp [1, 3, 4] [0, 1, 2] ?_ hK hgood
    rw [hσ]
    clear hσ hgood
    refine sq fun _ _ => ?_
    refine sq fun _ _ => ?_
    by_cases hlt : p.op < 5 ∧ (0 : Int) < (p.kids.length : Int)
    · refine rg ?_
      simp only [go_sem, Nat.reduceAdd, Nat.reduceSub, Nat.reduceMul, Nat.reduceLT, Nat.reduceLeDiff, Nat.reduceEqDiff, reduceIte, reduceCtorEq, if_true, if_false, Int.reduceEq, Int.reduceLT, Int.reduceLE, Int.reduceAdd, Int.reduceSub, Int.reduceMul, Int.reduceNeg, Int.reduceToNat, decide_true, decide_false, Nat.reduceBEq, hlt.1, hlt.2]
      refine nx ?_
      refine ct (hx := ?_)
      refine sq fun _ _ => ?_
      refine rg (sg ?_)
      refine nx ?_
      refine rt (sg ?_)
      refine f1 (g := sg ?_)
      exact ax [] ⟨congrArg A.bool (one_false fun h => by have h0 := (hdi.1 h).1 hlt.1; omega), rfl⟩
    · have hlb : (decide (p.op < 5) && decide ((0 : Int) < (p.kids.length : Int))) = false := by
        rw [Bool.and_eq_false_iff, decide_eq_false_iff_not, decide_eq_false_iff_not]
        omega
      refine rg ?_
      simp only [go_sem, Nat.reduceAdd, Nat.reduceSub, Nat.reduceMul, Nat.reduceLT, Nat.reduceLeDiff, Nat.reduceEqDiff, reduceIte, reduceCtorEq, if_true, if_false, Int.reduceEq, Int.reduceLT, Int.reduceLE, Int.reduceAdd, Int.reduceSub, Int.reduceMul, Int.reduceNeg, Int.reduceToNat, decide_true, decide_false, Nat.reduceBEq, hlb]
      refine cl [] (sg ?_)
      refine (c42 _ _ _ _ _ _ _ _ _ _ _ _ _ _ _ _ _ _).mono ?_
      rintro r bx ⟨rfl, rfl⟩
      refine sg ?_
      refine nx ?_
      refine cb (fun hfl => ?_) (fun hfl => ?_)
      · refine sq fun _ _ => ?_
        refine rg (sg ?_)
        refine nx ?_
        refine rt (sg ?_)
        refine f1 (g := sg ?_)
        exact ax [] ⟨congrArg A.bool (one_false fun h => by have h0 := (hdi.1 h).2; rw [hfl] at h0; cases h0), rfl⟩
      · have hH : HdP p := hdi.2 ⟨by omega, by simpa using hfl⟩
        refine sk (sg ?_)
        refine nx ?_
        refine sq fun _ _ => ?_
        refine sq fun _ _ => ?_
        refine rg (sg ?_)
        refine nx ?_
        refine bl ?_
        refine lp [1, 5] [0] (fun k σ => ∃ i : Nat, k = p.kids.length - i ∧ i ≤ p.kids.length ∧ (∀ (j : Nat) (h : j < p.kids.length), j < i → oneP p.kids[j] = true ∧ ¬ (6 ≤ p.op ∧ p.kids[j].op = p.op)) ∧ σ = ⟨138, 0, [(1, xPtr 0 0), (5, A.int .i64 i)], [.var [xI p.op, xS p.col, xI p.cmp, xB p.val.nl, xI p.val.i, xS p.val.s, xI p.kind, xS p.pat, .c (.sl p.kids.length 9 (elemsOf (p.kids.map cPr)))] 27]⟩) p.kids.length ?_ ?_
        · exact ⟨0, by omega, by omega, fun j h h2 => absurd h2 (Nat.not_lt_zero _), keq⟩
        · rintro k σ' ⟨i, hk, hi, hall, rfl⟩ Q1 hQ1
          refine sq fun _ _ => ?_
          refine sq fun _ _ => ?_
          refine rg (sg ?_)
          refine nx ?_
          refine cb (fun hlt2 => ?_) (fun hlt2 => ?_)
          · have hin : i < p.kids.length := by omega
            have hwi : IntKind.i64.wrap ((i : Int) + 1) = ((i + 1 : Nat) : Int) := wrap_succ (by omega)
            have hee := el_at (f := cPr) hin
            refine sk (sg ?_)
            refine nx ?_
            refine sq fun _ _ => ?_
            refine bl ?_
            refine sq fun _ _ => ?_
            refine dfs (.take 0 <| .take 1 <| .take 2 <| .take 3 <| .take 4 <| .one 5 <| .pure 6 <| .pure 7 <| .pure 8 <| .one 9 <| .pure 10 <| .pure 11 <| .pure 12 <| .pure 14 <| .pure 18 <| .two 13 19 (.pure 15 <| .pure 16 <| .two 17 19 (.one 19 <| .pure 20 <| .pure 21 <| .pure 22 <| .nil) (.one 17 <| .pure 20 <| .pure 21 <| .pure 22 <| .nil)) (.one 13 <| .pure 15 <| .pure 16 <| .one 17 <| .pure 20 <| .pure 21 <| .pure 22 <| .nil)) [] ?_
            cases ho : oneP p.kids[i]
            · refine afs (sg ?_)
              refine afs (sg ?_)
              refine afs (sg ?_)
              refine afs (sg ?_)
              refine and_assoc.2 ?_
              refine And.intro (by first | assumption | omega | rfl | trivial) ?_
              refine And.intro (by first | assumption | omega | rfl | trivial) ?_
              simp (disch := omega) only [el_at]
              refine afs (sg ?_)
              refine afs (sg ?_)
              refine cl [] (sg ?_)
              refine (ih p.kids[i] (List.getElem_mem hin) (hp.kid _ (List.getElem_mem hin))).mono ?_
              rintro r bx ⟨rfl, rfl⟩
              refine sg ?_
              simp only [go_sem, Nat.reduceAdd, Nat.reduceSub, Nat.reduceMul, Nat.reduceLT, Nat.reduceLeDiff, Nat.reduceEqDiff, reduceIte, reduceCtorEq, if_true, if_false, Int.reduceEq, Int.reduceLT, Int.reduceLE, Int.reduceAdd, Int.reduceSub, Int.reduceMul, Int.reduceNeg, Int.reduceToNat, decide_true, decide_false, Nat.reduceBEq, ho]
              refine afs (sg ?_)
              refine afs (sg ?_)
              refine afs (sg ?_)
              refine afs (sg ?_)
              refine afs (sg ?_)
              refine afs (sg ?_)
              refine afs (sg ?_)
              refine afs (sg ?_)
              refine afs (sg ?_)
              refine afs (sg ?_)
              have hfin : false = oneP p := one_kid (List.getElem_mem hin) fun h => by rw [ho] at h; exact absurd h.1 (by decide)
              refine ⟨?_, ?_⟩
              · refine afs (sg ?_)
                simp (disch := omega) only [el_at]
                refine afs (sg ?_)
                refine afs (sg ?_)
                refine ⟨?_, ?_⟩
                · refine afs (sg ?_)
                  refine afs (sg ?_)
                  refine afs (sg ?_)
                  refine afs (sg ?_)
                  refine afs (sg ?_)
                  refine nx ?_
                  refine ct (hx := ?_)
                  refine sq fun _ _ => ?_
                  refine rg (sg ?_)
                  refine nx ?_
                  refine rt (sg ?_)
                  refine lr (g := sg ?_)
                  refine f1 (g := sg ?_)
                  exact ax [] ⟨congrArg A.bool hfin, rfl⟩
                · refine afs (sg ?_)
                  refine afs (sg ?_)
                  refine afs (sg ?_)
                  refine afs (sg ?_)
                  refine afs (sg ?_)
                  refine nx ?_
                  refine ct (hx := ?_)
                  refine sq fun _ _ => ?_
                  refine rg (sg ?_)
                  refine nx ?_
                  refine rt (sg ?_)
                  refine lr (g := sg ?_)
                  refine f1 (g := sg ?_)
                  exact ax [] ⟨congrArg A.bool hfin, rfl⟩
              · refine afs (sg ?_)
                refine afs (sg ?_)
                simp (disch := omega) only [el_at]
                refine afs (sg ?_)
                refine afs (sg ?_)
                refine afs (sg ?_)
                refine afs (sg ?_)
                refine afs (sg ?_)
                refine afs (sg ?_)
                refine nx ?_
                refine ct (hx := ?_)
                refine sq fun _ _ => ?_
                refine rg (sg ?_)
                refine nx ?_
                refine rt (sg ?_)
                refine lr (g := sg ?_)
                refine f1 (g := sg ?_)
                exact ax [] ⟨congrArg A.bool hfin, rfl⟩
            · refine afs (sg ?_)
              refine afs (sg ?_)
              refine afs (sg ?_)
              refine afs (sg ?_)
              refine and_assoc.2 ?_
              refine And.intro (by first | assumption | omega | rfl | trivial) ?_
              refine And.intro (by first | assumption | omega | rfl | trivial) ?_
              simp (disch := omega) only [el_at]
              refine afs (sg ?_)
              refine afs (sg ?_)
              refine cl [] (sg ?_)
              refine (ih p.kids[i] (List.getElem_mem hin) (hp.kid _ (List.getElem_mem hin))).mono ?_
              rintro r bx ⟨rfl, rfl⟩
              refine sg ?_
              simp only [go_sem, Nat.reduceAdd, Nat.reduceSub, Nat.reduceMul, Nat.reduceLT, Nat.reduceLeDiff, Nat.reduceEqDiff, reduceIte, reduceCtorEq, if_true, if_false, Int.reduceEq, Int.reduceLT, Int.reduceLE, Int.reduceAdd, Int.reduceSub, Int.reduceMul, Int.reduceNeg, Int.reduceToNat, decide_true, decide_false, Nat.reduceBEq, ho]
              refine afs (sg ?_)
              refine afs (sg ?_)
              refine afs (sg ?_)
              refine afs (sg ?_)
              refine afs (sg ?_)
              by_cases h6 : 6 ≤ p.op
              · simp only [go_sem, Nat.reduceAdd, Nat.reduceSub, Nat.reduceMul, Nat.reduceLT, Nat.reduceLeDiff, Nat.reduceEqDiff, reduceIte, reduceCtorEq, if_true, if_false, Int.reduceEq, Int.reduceLT, Int.reduceLE, Int.reduceAdd, Int.reduceSub, Int.reduceMul, Int.reduceNeg, Int.reduceToNat, decide_true, decide_false, Nat.reduceBEq, h6]
                refine afs (sg ?_)
                refine afs (sg ?_)
                refine afs (sg ?_)
                refine afs (sg ?_)
                refine afs (sg ?_)
                refine ⟨?_, ?_⟩
                · refine afs (sg ?_)
                  refine and_assoc.2 ?_
                  refine And.intro (by first | assumption | omega | rfl | trivial) ?_
                  refine And.intro (by first | assumption | omega | rfl | trivial) ?_
                  simp (disch := omega) only [el_at]
                  refine afs (sg ?_)
                  refine afs (sg ?_)
                  refine ⟨?_, ?_⟩
                  · refine afs (sg ?_)
                    refine afs (sg ?_)
                    refine afs (sg ?_)
                    refine afs (sg ?_)
                    refine afs (sg ?_)
                    refine nx ?_
                    refine cb (fun hsm => ?_) (fun hsm => ?_)
                    · refine sq fun _ _ => ?_
                      refine rg (sg ?_)
                      refine nx ?_
                      refine rt (sg ?_)
                      refine lr (g := sg ?_)
                      refine f1 (g := sg ?_)
                      exact ax [] ⟨congrArg A.bool (one_kid (List.getElem_mem hin) fun h => h.2 ⟨h6, hsm⟩), rfl⟩
                    · have hall2 : ∀ (j : Nat) (h : j < p.kids.length), j < i + 1 → oneP p.kids[j] = true ∧ ¬ (6 ≤ p.op ∧ p.kids[j].op = p.op) := by
                        intro j hj h3
                        by_cases hji : j = i
                        · subst hji
                          exact ⟨ho, fun h => hsm h.2⟩
                        · exact hall j hj (by omega)
                      refine sk (sg ?_)
                      refine nx ?_
                      refine rg (sg ?_)
                      simp (disch := omega) only [wrap_succ]
                      refine ln (p.kids.length - (i + 1)) [0] ?_ ?_
                      · omega
                      exact ⟨i + 1, by omega, by omega, hall2, keq⟩
                  · refine afs (sg ?_)
                    refine afs (sg ?_)
                    refine afs (sg ?_)
                    refine afs (sg ?_)
                    refine afs (sg ?_)
                    refine nx ?_
                    refine cb (fun hsm => ?_) (fun hsm => ?_)
                    · refine sq fun _ _ => ?_
                      refine rg (sg ?_)
                      refine nx ?_
                      refine rt (sg ?_)
                      refine lr (g := sg ?_)
                      refine f1 (g := sg ?_)
                      exact ax [] ⟨congrArg A.bool (one_kid (List.getElem_mem hin) fun h => h.2 ⟨h6, hsm⟩), rfl⟩
                    · have hall2 : ∀ (j : Nat) (h : j < p.kids.length), j < i + 1 → oneP p.kids[j] = true ∧ ¬ (6 ≤ p.op ∧ p.kids[j].op = p.op) := by
                        intro j hj h3
                        by_cases hji : j = i
                        · subst hji
                          exact ⟨ho, fun h => hsm h.2⟩
                        · exact hall j hj (by omega)
                      refine sk (sg ?_)
                      refine nx ?_
                      refine rg (sg ?_)
                      simp (disch := omega) only [wrap_succ]
                      refine ln (p.kids.length - (i + 1)) [0] ?_ ?_
                      · omega
                      exact ⟨i + 1, by omega, by omega, hall2, keq⟩
                · refine afs (sg ?_)
                  refine afs (sg ?_)
                  refine and_assoc.2 ?_
                  refine And.intro (by first | assumption | omega | rfl | trivial) ?_
                  refine And.intro (by first | assumption | omega | rfl | trivial) ?_
                  simp (disch := omega) only [el_at]
                  refine afs (sg ?_)
                  refine afs (sg ?_)
                  refine afs (sg ?_)
                  refine afs (sg ?_)
                  refine afs (sg ?_)
                  refine afs (sg ?_)
                  refine nx ?_
                  refine cb (fun hsm => ?_) (fun hsm => ?_)
                  · refine sq fun _ _ => ?_
                    refine rg (sg ?_)
                    refine nx ?_
                    refine rt (sg ?_)
                    refine lr (g := sg ?_)
                    refine f1 (g := sg ?_)
                    exact ax [] ⟨congrArg A.bool (one_kid (List.getElem_mem hin) fun h => h.2 ⟨h6, hsm⟩), rfl⟩
                  · have hall2 : ∀ (j : Nat) (h : j < p.kids.length), j < i + 1 → oneP p.kids[j] = true ∧ ¬ (6 ≤ p.op ∧ p.kids[j].op = p.op) := by
                      intro j hj h3
                      by_cases hji : j = i
                      · subst hji
                        exact ⟨ho, fun h => hsm h.2⟩
                      · exact hall j hj (by omega)
                    refine sk (sg ?_)
                    refine nx ?_
                    refine rg (sg ?_)
                    simp (disch := omega) only [wrap_succ]
                    refine ln (p.kids.length - (i + 1)) [0] ?_ ?_
                    · omega
                    exact ⟨i + 1, by omega, by omega, hall2, keq⟩
              · simp only [go_sem, Nat.reduceAdd, Nat.reduceSub, Nat.reduceMul, Nat.reduceLT, Nat.reduceLeDiff, Nat.reduceEqDiff, reduceIte, reduceCtorEq, if_true, if_false, Int.reduceEq, Int.reduceLT, Int.reduceLE, Int.reduceAdd, Int.reduceSub, Int.reduceMul, Int.reduceNeg, Int.reduceToNat, decide_true, decide_false, Nat.reduceBEq, h6]
                have hall2 : ∀ (j : Nat) (h : j < p.kids.length), j < i + 1 → oneP p.kids[j] = true ∧ ¬ (6 ≤ p.op ∧ p.kids[j].op = p.op) := by
                  intro j hj h3
                  by_cases hji : j = i
                  · subst hji
                    exact ⟨ho, fun h => h6 h.1⟩
                  · exact hall j hj (by omega)
                refine afs (sg ?_)
                refine afs (sg ?_)
                refine afs (sg ?_)
                refine afs (sg ?_)
                refine afs (sg ?_)
                refine ⟨?_, ?_⟩
                · refine afs (sg ?_)
                  simp (disch := omega) only [el_at]
                  refine afs (sg ?_)
                  refine afs (sg ?_)
                  refine ⟨?_, ?_⟩
                  · refine afs (sg ?_)
                    refine afs (sg ?_)
                    refine afs (sg ?_)
                    refine afs (sg ?_)
                    refine afs (sg ?_)
                    refine nx ?_
                    refine cf (hy := ?_)
                    refine sk (sg ?_)
                    refine nx ?_
                    refine rg (sg ?_)
                    simp (disch := omega) only [wrap_succ]
                    refine ln (p.kids.length - (i + 1)) [0] ?_ ?_
                    · omega
                    exact ⟨i + 1, by omega, by omega, hall2, keq⟩
                  · refine afs (sg ?_)
                    refine afs (sg ?_)
                    refine afs (sg ?_)
                    refine afs (sg ?_)
                    refine afs (sg ?_)
                    refine nx ?_
                    refine cf (hy := ?_)
                    refine sk (sg ?_)
                    refine nx ?_
                    refine rg (sg ?_)
                    simp (disch := omega) only [wrap_succ]
                    refine ln (p.kids.length - (i + 1)) [0] ?_ ?_
                    · omega
                    exact ⟨i + 1, by omega, by omega, hall2, keq⟩
                · refine afs (sg ?_)
                  refine afs (sg ?_)
                  simp (disch := omega) only [el_at]
                  refine afs (sg ?_)
                  refine afs (sg ?_)
                  refine afs (sg ?_)
                  refine afs (sg ?_)
                  refine afs (sg ?_)
                  refine afs (sg ?_)
                  refine nx ?_
                  refine cf (hy := ?_)
                  refine sk (sg ?_)
                  refine nx ?_
                  refine rg (sg ?_)
                  simp (disch := omega) only [wrap_succ]
                  refine ln (p.kids.length - (i + 1)) [0] ?_ ?_
                  · omega
                  exact ⟨i + 1, by omega, by omega, hall2, keq⟩
          · refine xt (sg ?_)
            refine lx (g := sg ?_)
            refine nx ?_
            refine sq fun _ _ => ?_
            refine rg (sg ?_)
            refine nx ?_
            refine rt ?_
            refine f1 (g := sg ?_)
            refine ax [] ⟨congrArg A.bool (one_all hH fun x hx => ?_), rfl⟩
            obtain ⟨j, hj, rfl⟩ := List.getElem_of_mem hx
            exact hall j hj (by omega)
  refine sq fun _ _ => ?_
  refine rg (sg ?_)
  refine nx ?_
  refine bl ?_
  refine sq fun _ _ => ?_
  refine rg (sg ?_)
  refine nx ?_
  refine cb (fun h1 => ?_) (fun h1 => ?_)
  · refine sk (sg ?_)
    exact key _ _ _ _ _ _ _ _ (hd1 h1) (by simp [St.good, St.ids, upto]) keq
  · refine sq fun _ _ => ?_
    refine rg (sg ?_)
    refine nx ?_
    refine cb (fun h2 => ?_) (fun h2 => ?_)
    · refine sq fun _ _ => ?_
      refine rg (sg ?_)
      refine nx ?_
      refine sq fun _ _ => ?_
      refine rgs 3 (sgt ?_)
      refine cl [] (sg ?_)
      refine (c24 _ (by first | assumption | omega | trivial | rfl)).mono ?_
      rintro r bx ⟨rfl, rfl⟩
      refine sg ?_
      refine hr 17 (sgt ?_)
      simp only [undef]
      refine ⟨fun hg => ⟨hg, ?_⟩, fun hg => ?_⟩
      · refine cl [] (sg ?_)
        refine (c67 _ _ _ _ _).mono ?_
        rintro r bx ⟨rfl, rfl⟩
        refine sg ?_
        refine hrl (sg ?_)
        refine nx ?_
        rw [Bool.or_eq_false_iff, Bool.or_eq_false_iff, Bool.not_eq_false', decide_eq_false_iff_not, decide_eq_false_iff_not] at hg
        obtain ⟨⟨hg1, hg2⟩, hg3⟩ := hg
        refine cb (fun hm => ?_) (fun hm => ?_)
        · have hm2 : ¬ MayC p.kind false p.val := by
            rcases hm with ((hm | hm) | hm) | hm
            · exact absurd (hm.symm.trans hg1) (by decide)
            · omega
            · omega
            · exact hm
          refine sq fun _ _ => ?_
          refine rg (sg ?_)
          refine nx ?_
          refine rt (sg ?_)
          refine f1 (g := sg ?_)
          exact ax [] ⟨congrArg A.bool (one_false fun h => by simp [HdP, h2, hm2] at h), rfl⟩
        · have hm2 : MayC p.kind false p.val := Decidable.not_not.1 fun h => hm (.inr h)
          refine sk (sg ?_)
          exact key _ _ _ _ _ _ _ _ (hd2 h2 hg1 hg2 hg3 hm2) (by simp [St.good, St.ids, upto]) keq
      · refine hrl ?_
        simp only [go_sem, Nat.reduceAdd, Nat.reduceSub, Nat.reduceMul, Nat.reduceLT, Nat.reduceLeDiff, Nat.reduceEqDiff, reduceIte, reduceCtorEq, if_true, if_false, Int.reduceEq, Int.reduceLT, Int.reduceLE, Int.reduceAdd, Int.reduceSub, Int.reduceMul, Int.reduceNeg, Int.reduceToNat, decide_true, decide_false, Nat.reduceBEq, hg]
        refine nx ?_
        refine ct (hx := ?_)
        refine sq fun _ _ => ?_
        refine rg (sg ?_)
        refine nx ?_
        refine rt (sg ?_)
        refine f1 (g := sg ?_)
        rw [Bool.or_eq_true, Bool.or_eq_true, Bool.not_eq_true', decide_eq_true_eq, decide_eq_true_eq] at hg
        exact ax [] ⟨congrArg A.bool (one_false fun h => by simp [HdP, h2] at h; rcases hg with (hg | hg) | hg; exact absurd (hg.symm.trans h.1) (by decide); omega; omega), rfl⟩
    · refine sq fun _ _ => ?_
      refine rg (sg ?_)
      refine nx ?_
      refine cb (fun h3 => ?_) (fun h3 => ?_)
      · refine sq fun _ _ => ?_
        refine rg (sg ?_)
        refine nx ?_
        refine sq fun _ _ => ?_
        refine rg (sg ?_)
        refine cl [] (sg ?_)
        refine (c24 _ (by first | assumption | omega | trivial | rfl)).mono ?_
        rintro r bx ⟨rfl, rfl⟩
        refine sg ?_
        refine nx ?_
        refine cb (fun hn => ?_) (fun hn => ?_)
        · refine sq fun _ _ => ?_
          refine rg (sg ?_)
          refine nx ?_
          refine rt (sg ?_)
          refine f1 (g := sg ?_)
          exact ax [] ⟨congrArg A.bool (one_false fun h => by simp [HdP, h3] at h; exact absurd (hn.symm.trans h.1) (by decide)), rfl⟩
        · rw [Bool.not_eq_false] at hn
          refine sk (sg ?_)
          exact key _ _ _ _ _ _ _ _ (hd3 h3 hn) (by simp [St.good, St.ids, upto]) keq
      · refine sq fun _ _ => ?_
        refine rg (sg ?_)
        refine nx ?_
        refine cb (fun h4 => ?_) (fun h4 => ?_)
        · refine sq fun _ _ => ?_
          refine rg (sg ?_)
          refine nx ?_
          refine sq fun _ _ => ?_
          refine rg (sg ?_)
          refine cl [] (sg ?_)
          refine (c24 _ (by first | assumption | omega | trivial | rfl)).mono ?_
          rintro r bx ⟨rfl, rfl⟩
          refine sg ?_
          refine nx ?_
          refine cb (fun hn => ?_) (fun hn => ?_)
          · refine sq fun _ _ => ?_
            refine rg (sg ?_)
            refine nx ?_
            refine rt (sg ?_)
            refine f1 (g := sg ?_)
            exact ax [] ⟨congrArg A.bool (one_false fun h => by simp [HdP, h4] at h; rcases hn with hn | hn; exact absurd (hn.symm.trans h.1) (by decide); omega), rfl⟩
          · have hn1 : nameB p.col = true := by
              cases hb : nameB p.col
              · exact absurd (.inl hb) hn
              · rfl
            have hn2 : p.pat.size ≤ 40 := Nat.le_of_not_lt fun h => hn (.inr (by omega))
            refine sk (sg ?_)
            exact key _ _ _ _ _ _ _ _ (hd4 h4 hn1 hn2) (by simp [St.good, St.ids, upto]) keq
        · refine sq fun _ _ => ?_
          refine rg (sg ?_)
          refine nx ?_
          refine cb (fun h5 => ?_) (fun h5 => ?_)
          · refine sq fun _ _ => ?_
            refine rg (sg ?_)
            refine nx ?_
            refine cb (fun hn => ?_) (fun hn => ?_)
            · refine sq fun _ _ => ?_
              refine rg (sg ?_)
              refine nx ?_
              refine rt (sg ?_)
              refine f1 (g := sg ?_)
              exact ax [] ⟨congrArg A.bool (one_false fun h => by simp [HdP, h5] at h; omega), rfl⟩
            · have hl5 : p.kids.length = 1 := by omega
              refine sk (sg ?_)
              exact key _ _ _ _ _ _ _ _ (hd5 h5 hl5) (by simp [St.good, St.ids, upto]) keq
          · refine sq fun _ _ => ?_
            refine sq fun _ _ => ?_
            refine rg (sg ?_)
            refine nx ?_
            refine cb (fun h6 => ?_) (fun h6 => ?_)
            · refine sk (sg ?_)
              refine nx ?_
              refine cb (fun hx => ?_) (fun hx => ?_)
              · refine sq fun _ _ => ?_
                refine rg (sg ?_)
                refine nx ?_
                refine cb (fun hn => ?_) (fun hn => ?_)
                · refine sq fun _ _ => ?_
                  refine rg (sg ?_)
                  refine nx ?_
                  refine rt (sg ?_)
                  refine f1 (g := sg ?_)
                  exact ax [] ⟨congrArg A.bool (one_false fun h => by simp [HdP, h6] at h; omega), rfl⟩
                · have hl5 : 2 ≤ p.kids.length := by omega
                  refine sk (sg ?_)
                  exact key _ _ _ _ _ _ _ _ (hd6 (.inl h6) hl5) (by simp [St.good, St.ids, upto]) keq
              · exact absurd h6 hx
            · refine rg (sg ?_)
              refine nx ?_
              refine cb (fun h7 => ?_) (fun h7 => ?_)
              · refine sq fun _ _ => ?_
                refine rg (sg ?_)
                refine nx ?_
                refine cb (fun hn => ?_) (fun hn => ?_)
                · refine sq fun _ _ => ?_
                  refine rg (sg ?_)
                  refine nx ?_
                  refine rt (sg ?_)
                  refine f1 (g := sg ?_)
                  exact ax [] ⟨congrArg A.bool (one_false fun h => by simp [HdP, h7] at h; omega), rfl⟩
                · have hl5 : 2 ≤ p.kids.length := by omega
                  refine sk (sg ?_)
                  exact key _ _ _ _ _ _ _ _ (hd6 (.inr h7) hl5) (by simp [St.good, St.ids, upto]) keq
              · refine sq fun _ _ => ?_
                refine rg (sg ?_)
                refine nx ?_
                refine rt (sg ?_)
                refine f1 (g := sg ?_)
                exact ax [] ⟨congrArg A.bool (one_false fun h => by unfold HdP at h; omega), rfl⟩
theorem c45 (p : Pr) (hp : Sm p) : PC Tryz.prog 45 [aPr p] [] (fun r bx => r = A.bool (oneP p) ∧ bx = []) := c45at p hp

end Go.Proofs.YthinpbnnpelhhaaGreatDoor.V
