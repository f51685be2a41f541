import Derived.Test.YthinpbnnpelhhaaGreatDoorB2
import Derived.Laws.RangeAny
namespace Go.Proofs.YthinpbnnpelhhaaGreatDoor.V
open Go Go.RowKit Go.Proofs.YthinpbnnpelhhaaGreatDoorW.PrintLast
open Go.Proofs
set_option linter.unusedVariables false
set_option linter.unusedSimpArgs false
attribute [local irreducible] awp
set_option maxRecDepth 100000
theorem wordsQ_len : wordsQ.length = 19 := rfl
theorem c43 : PC Tryz.prog 43 [] [] (fun x bx => x = .one (.c (rowA 1 cSt wordsQ)) ∧ bx = []) := by
  refine enter (rs := [.tmp 0]) mx Tryz.func43 Tryz.ntmps43 fun Q0 hQ0 => ?_
  refine sq fun _ _ => ?_
  refine rg (sg ?_)
  refine nx ?_
  refine sq fun _ _ => ?_
  refine rg (sg ?_)
  refine nx ?_
  refine rt ?_
  refine f1 (g := sg ?_)
  refine ax [] ⟨?_, rfl⟩
  refine congrArg (fun f => A.one (L.c (C.sl 19 1 f))) ?_
  simp only [Nat.zero_add]
  exact vw_lc wordsQ cSt
set_option maxHeartbeats 8000000 in
theorem c46 (s : ByteArray) : PC Tryz.prog 46 [A.str s] [] (fun r bx => r = A.bool (wordsQ.any fun w => decide (w = s)) ∧ bx = []) := by
  refine enter (rs := [.tmp 2]) mx Tryz.func46 Tryz.ntmps46 fun Q0 hQ0 => ?_
  refine sq fun _ _ => ?_
  refine rg (sg ?_)
  refine nx ?_
  refine sq fun _ _ => ?_
  refine sq fun _ _ => ?_
  refine rg (sg ?_)
  refine nx ?_
  refine bl ?_
  refine sq fun _ _ => ?_
  refine sq fun _ _ => ?_
  refine rg (sg ?_)
  refine nx ?_
  refine cb (fun h0 => ?_) (fun h0 => ?_)
  · subst h0
    refine sk (sg ?_)
    refine nx ?_
    refine ct (hx := ?_)
    refine sq fun _ _ => ?_
    refine rg (sg ?_)
    refine nx ?_
    refine rt (sg ?_)
    refine f1 (g := sg ?_)
    exact ax [] ⟨congrArg A.bool (by decide), rfl⟩
  · refine sq fun _ _ => ?_
    refine rg (sg ?_)
    refine nx ?_
    refine cb (fun h1 => ?_) (fun h1 => ?_)
    · subst h1
      refine sk (sg ?_)
      refine nx ?_
      refine ct (hx := ?_)
      refine sq fun _ _ => ?_
      refine rg (sg ?_)
      refine nx ?_
      refine rt (sg ?_)
      refine f1 (g := sg ?_)
      exact ax [] ⟨congrArg A.bool (by decide), rfl⟩
    · refine sq fun _ _ => ?_
      refine rg (sg ?_)
      refine nx ?_
      refine cb (fun h2 => ?_) (fun h2 => ?_)
      · subst h2
        refine sk (sg ?_)
        refine nx ?_
        refine ct (hx := ?_)
        refine sq fun _ _ => ?_
        refine rg (sg ?_)
        refine nx ?_
        refine rt (sg ?_)
        refine f1 (g := sg ?_)
        exact ax [] ⟨congrArg A.bool (by decide), rfl⟩
      · refine sq fun _ _ => ?_
        refine rg (sg ?_)
        refine nx ?_
        refine cb (fun h3 => ?_) (fun h3 => ?_)
        · subst h3
          refine sk (sg ?_)
          refine nx ?_
          refine ct (hx := ?_)
          refine sq fun _ _ => ?_
          refine rg (sg ?_)
          refine nx ?_
          refine rt (sg ?_)
          refine f1 (g := sg ?_)
          exact ax [] ⟨congrArg A.bool (by decide), rfl⟩
        · refine sq fun _ _ => ?_
          refine rg (sg ?_)
          refine nx ?_
          refine cb (fun h4 => ?_) (fun h4 => ?_)
          · subst h4
            refine sk (sg ?_)
            refine nx ?_
            refine ct (hx := ?_)
            refine sq fun _ _ => ?_
            refine rg (sg ?_)
            refine nx ?_
            refine rt (sg ?_)
            refine f1 (g := sg ?_)
            exact ax [] ⟨congrArg A.bool (by decide), rfl⟩
          · refine sq fun _ _ => ?_
            refine rg (sg ?_)
            refine nx ?_
            refine cb (fun h5 => ?_) (fun h5 => ?_)
            · subst h5
              refine sk (sg ?_)
              refine nx ?_
              refine ct (hx := ?_)
              refine sq fun _ _ => ?_
              refine rg (sg ?_)
              refine nx ?_
              refine rt (sg ?_)
              refine f1 (g := sg ?_)
              exact ax [] ⟨congrArg A.bool (by decide), rfl⟩
            · refine sq fun _ _ => ?_
              refine rg (sg ?_)
              refine nx ?_
              refine cb (fun h6 => ?_) (fun h6 => ?_)
              · subst h6
                refine sk (sg ?_)
                refine nx ?_
                refine ct (hx := ?_)
                refine sq fun _ _ => ?_
                refine rg (sg ?_)
                refine nx ?_
                refine rt (sg ?_)
                refine f1 (g := sg ?_)
                exact ax [] ⟨congrArg A.bool (by decide), rfl⟩
              · refine sq fun _ _ => ?_
                refine rg (sg ?_)
                refine nx ?_
                refine cb (fun h7 => ?_) (fun h7 => ?_)
                · subst h7
                  refine sk (sg ?_)
                  refine nx ?_
                  refine ct (hx := ?_)
                  refine sq fun _ _ => ?_
                  refine rg (sg ?_)
                  refine nx ?_
                  refine rt (sg ?_)
                  refine f1 (g := sg ?_)
                  exact ax [] ⟨congrArg A.bool (by decide), rfl⟩
                · refine sq fun _ _ => ?_
                  refine rg (sg ?_)
                  refine nx ?_
                  refine cb (fun h8 => ?_) (fun h8 => ?_)
                  · subst h8
                    refine sk (sg ?_)
                    refine nx ?_
                    refine ct (hx := ?_)
                    refine sq fun _ _ => ?_
                    refine rg (sg ?_)
                    refine nx ?_
                    refine rt (sg ?_)
                    refine f1 (g := sg ?_)
                    exact ax [] ⟨congrArg A.bool (by decide), rfl⟩
                  · refine sq fun _ _ => ?_
                    refine rg (sg ?_)
                    refine nx ?_
                    refine cb (fun h9 => ?_) (fun h9 => ?_)
                    · subst h9
                      refine sk (sg ?_)
                      refine nx ?_
                      refine ct (hx := ?_)
                      refine sq fun _ _ => ?_
                      refine rg (sg ?_)
                      refine nx ?_
                      refine rt (sg ?_)
                      refine f1 (g := sg ?_)
                      exact ax [] ⟨congrArg A.bool (by decide), rfl⟩
                    · refine sq fun _ _ => ?_
                      refine rg (sg ?_)
                      refine nx ?_
                      refine cb (fun h10 => ?_) (fun h10 => ?_)
                      · subst h10
                        refine sk (sg ?_)
                        refine nx ?_
                        refine ct (hx := ?_)
                        refine sq fun _ _ => ?_
                        refine rg (sg ?_)
                        refine nx ?_
                        refine rt (sg ?_)
                        refine f1 (g := sg ?_)
                        exact ax [] ⟨congrArg A.bool (by decide), rfl⟩
                      · refine sq fun _ _ => ?_
                        refine rg (sg ?_)
                        refine nx ?_
                        refine cb (fun h11 => ?_) (fun h11 => ?_)
                        · subst h11
                          refine sk (sg ?_)
                          refine nx ?_
                          refine ct (hx := ?_)
                          refine sq fun _ _ => ?_
                          refine rg (sg ?_)
                          refine nx ?_
                          refine rt (sg ?_)
                          refine f1 (g := sg ?_)
                          exact ax [] ⟨congrArg A.bool (by decide), rfl⟩
                        · refine sq fun _ _ => ?_
                          refine rg (sg ?_)
                          refine nx ?_
                          refine cb (fun h12 => ?_) (fun h12 => ?_)
                          · subst h12
                            refine sk (sg ?_)
                            refine nx ?_
                            refine ct (hx := ?_)
                            refine sq fun _ _ => ?_
                            refine rg (sg ?_)
                            refine nx ?_
                            refine rt (sg ?_)
                            refine f1 (g := sg ?_)
                            exact ax [] ⟨congrArg A.bool (by decide), rfl⟩
                          · refine sq fun _ _ => ?_
                            refine rg (sg ?_)
                            refine nx ?_
                            refine cb (fun h13 => ?_) (fun h13 => ?_)
                            · subst h13
                              refine sk (sg ?_)
                              refine nx ?_
                              refine ct (hx := ?_)
                              refine sq fun _ _ => ?_
                              refine rg (sg ?_)
                              refine nx ?_
                              refine rt (sg ?_)
                              refine f1 (g := sg ?_)
                              exact ax [] ⟨congrArg A.bool (by decide), rfl⟩
                            · refine sq fun _ _ => ?_
                              refine rg (sg ?_)
                              refine nx ?_
                              refine cb (fun h14 => ?_) (fun h14 => ?_)
                              · subst h14
                                refine sk (sg ?_)
                                refine nx ?_
                                refine ct (hx := ?_)
                                refine sq fun _ _ => ?_
                                refine rg (sg ?_)
                                refine nx ?_
                                refine rt (sg ?_)
                                refine f1 (g := sg ?_)
                                exact ax [] ⟨congrArg A.bool (by decide), rfl⟩
                              · refine sq fun _ _ => ?_
                                refine rg (sg ?_)
                                refine nx ?_
                                refine cb (fun h15 => ?_) (fun h15 => ?_)
                                · subst h15
                                  refine sk (sg ?_)
                                  refine nx ?_
                                  refine ct (hx := ?_)
                                  refine sq fun _ _ => ?_
                                  refine rg (sg ?_)
                                  refine nx ?_
                                  refine rt (sg ?_)
                                  refine f1 (g := sg ?_)
                                  exact ax [] ⟨congrArg A.bool (by decide), rfl⟩
                                · refine sq fun _ _ => ?_
                                  refine rg (sg ?_)
                                  refine nx ?_
                                  refine cb (fun h16 => ?_) (fun h16 => ?_)
                                  · subst h16
                                    refine sk (sg ?_)
                                    refine nx ?_
                                    refine ct (hx := ?_)
                                    refine sq fun _ _ => ?_
                                    refine rg (sg ?_)
                                    refine nx ?_
                                    refine rt (sg ?_)
                                    refine f1 (g := sg ?_)
                                    exact ax [] ⟨congrArg A.bool (by decide), rfl⟩
                                  · refine sq fun _ _ => ?_
                                    refine rg (sg ?_)
                                    refine nx ?_
                                    refine cb (fun h17 => ?_) (fun h17 => ?_)
                                    · subst h17
                                      refine sk (sg ?_)
                                      refine nx ?_
                                      refine ct (hx := ?_)
                                      refine sq fun _ _ => ?_
                                      refine rg (sg ?_)
                                      refine nx ?_
                                      refine rt (sg ?_)
                                      refine f1 (g := sg ?_)
                                      exact ax [] ⟨congrArg A.bool (by decide), rfl⟩
                                    · refine rg (sg ?_)
                                      refine nx ?_
                                      refine cb (fun h18 => ?_) (fun h18 => ?_)
                                      · subst h18
                                        refine sq fun _ _ => ?_
                                        refine rg (sg ?_)
                                        refine nx ?_
                                        refine rt (sg ?_)
                                        refine f1 (g := sg ?_)
                                        exact ax [] ⟨congrArg A.bool (by decide), rfl⟩
                                      · refine sk (sg ?_)
                                        refine nx ?_
                                        refine sq fun _ _ => ?_
                                        refine rg (sg ?_)
                                        refine nx ?_
                                        refine rt ?_
                                        refine f1 (g := sg ?_)
                                        refine ax [] ⟨congrArg A.bool ?_, rfl⟩
                                        simp [wordsQ, Ne.symm h0, Ne.symm h1, Ne.symm h2, Ne.symm h3, Ne.symm h4, Ne.symm h5, Ne.symm h6, Ne.symm h7, Ne.symm h8, Ne.symm h9, Ne.symm h10, Ne.symm h11, Ne.symm h12, Ne.symm h13, Ne.symm h14, Ne.symm h15, Ne.symm h16, Ne.symm h17, Ne.symm h18]
set_option maxHeartbeats 8000000 in
theorem c24 (s : ByteArray) (hs : s.size ≤ 1000) : PC Tryz.prog 24 [A.str s] [] (fun r bx => r = A.bool (nameB s) ∧ bx = []) := by
  have hsz := len_bsL s
  refine enter (rs := [.tmp 2]) mx Tryz.func24 Tryz.ntmps24 fun Q0 hQ0 => ?_
  refine sq fun _ _ => ?_
  refine rg (sg ?_)
  refine nx ?_
  refine sq fun _ _ => ?_
  refine sq fun _ _ => ?_
  refine rg (sg ?_)
  refine nx ?_
  refine bl ?_
  refine lp [0, 3] [] (fun k σ => ∃ i : Nat, k = s.size - i ∧ i ≤ s.size ∧ (∀ (j : Nat) (c : UInt8), j < i → (bsL s)[j]? = some c → letC c = true ∨ (j ≠ 0 ∧ namC c = true)) ∧ σ = ⟨65, 0, [(0, A.str s), (3, A.int .i64 i)], []⟩) s.size ?_ ?_
  · exact ⟨0, by omega, by omega, fun j c h => absurd h (Nat.not_lt_zero _), keq⟩
  · rintro k σ' ⟨i, hk, hi, hc, rfl⟩ Q1 hQ1
    refine sq fun _ _ => ?_
    refine sq fun _ _ => ?_
    refine rg (sg ?_)
    refine nx ?_
    refine cb (fun h => ?_) (fun h => ?_)
    · have hi2 : i < s.size := by omega
      have ha := at_list' hi2
      have hcg := chr_get s i hi2
      generalize s.get! i = c at ha hcg
      have hwi : IntKind.i64.wrap ((i : Int) + 1) = ((i + 1 : Nat) : Int) := wrap_succ (by omega)
      refine sk (sg ?_)
      refine nx ?_
      refine sq fun _ _ => ?_
      refine bl ?_
      refine sq fun _ _ => ?_
      refine rg (sg ?_)
      refine and_assoc.2 ?_
      refine And.intro (by first | assumption | omega | rfl | trivial) ?_
      refine And.intro (by first | assumption | omega | rfl | trivial) ?_
      refine nx ?_
      refine sq fun _ _ => ?_
      refine rg (sg ?_)
      refine nx ?_
      refine sq fun _ _ => ?_
      refine rg (sg ?_)
      refine And.intro (by simp; omega) ?_
      refine nx ?_
      simp only [hcg]
      refine cb (fun h2 => ?_) (fun h2 => ?_)
      · refine sq fun _ _ => ?_
        refine rg (sg ?_)
        refine nx ?_
        refine rt (sg ?_)
        refine lr (g := sg ?_)
        refine f1 (g := sg ?_)
        refine ax [] ⟨congrArg A.bool ?_, rfl⟩
        rw [Eq.comm, ← Bool.not_eq_true]
        intro hn
        have h3 := ((nameB_iff s).1 hn).1 i c ha
        simp [letC, namC, digC] at h2 h3
        omega
      · have h3 : letC c = true ∨ (i ≠ 0 ∧ namC c = true) := by
          simp [letC, namC, digC] at h2 ⊢
          omega
        have hc2 : ∀ (j : Nat) (d : UInt8), j < i + 1 → (bsL s)[j]? = some d → letC d = true ∨ (j ≠ 0 ∧ namC d = true) := by
          intro j d hj hd
          by_cases hji : j = i
          · subst hji
            rw [ha] at hd
            obtain rfl := Option.some.inj hd
            exact h3
          · exact hc j d (by omega) hd
        refine sk (sg ?_)
        refine nx ?_
        refine rg (sg ?_)
        simp (disch := omega) only [wrap_succ]
        refine ln (s.size - (i + 1)) [] ?_ ?_
        · omega
        exact ⟨i + 1, by omega, by omega, hc2, keq⟩
    · have hall : ∀ (j : Nat) (c : UInt8), (bsL s)[j]? = some c → letC c = true ∨ (j ≠ 0 ∧ namC c = true) := fun j c hj => hc j c (by obtain ⟨hp, _⟩ := at_list hj; omega) hj
      refine xt (sg ?_)
      refine lx (g := sg ?_)
      refine nx ?_
      refine sq fun _ _ => ?_
      refine rg (sg ?_)
      refine cl [] (sg ?_)
      refine (c43).mono ?_
      rintro r bx ⟨rfl, rfl⟩
      refine sg ?_
      refine nx ?_
      refine sq fun _ _ => ?_
      refine sq fun _ _ => ?_
      refine rg (sg ?_)
      refine nx ?_
      refine bl ?_
      refine lp [0, 7, 8] [] (fun k σ => ∃ i : Nat, k = 19 - i ∧ i ≤ 19 ∧ (∀ (j : Nat) (h : j < wordsQ.length), j < i → wordsQ[j] ≠ s) ∧ σ = ⟨65, 0, [(0, A.str s), (7, xRow wordsQ.length 1 (elemsOf (List.map cSt wordsQ))), (8, A.int .i64 i)], []⟩) 19 ?_ ?_
      · exact ⟨0, by omega, by omega, fun j h h2 => absurd h2 (Nat.not_lt_zero _), keq⟩
      · rintro k σ' ⟨i, hk, hi, hw, rfl⟩ Q1 hQ1
        have hwl : wordsQ.length = 19 := rfl
        refine sq fun _ _ => ?_
        refine sq fun _ _ => ?_
        refine rg (sg ?_)
        refine nx ?_
        refine cb (fun h => ?_) (fun h => ?_)
        · have hin : i < wordsQ.length := by omega
          have hwi : IntKind.i64.wrap ((i : Int) + 1) = ((i + 1 : Nat) : Int) := wrap_succ (by omega)
          have he := el_at (f := cSt) hin
          refine sk (sg ?_)
          refine nx ?_
          refine sq fun _ _ => ?_
          refine bl ?_
          refine sq fun _ _ => ?_
          refine rg (sg ?_)
          refine and_assoc.2 ?_
          refine And.intro (by first | assumption | omega | rfl | trivial) ?_
          refine And.intro (by first | assumption | omega | rfl | trivial) ?_
          simp (disch := omega) only [el_at]
          refine sg ?_
          refine nx ?_
          refine cb (fun h2 => ?_) (fun h2 => ?_)
          · refine sq fun _ _ => ?_
            refine rg (sg ?_)
            refine nx ?_
            refine rt (sg ?_)
            refine lr (g := sg ?_)
            refine f1 (g := sg ?_)
            refine ax [] ⟨congrArg A.bool ?_, rfl⟩
            rw [Eq.comm, ← Bool.not_eq_true]
            intro hn
            exact ((nameB_iff s).1 hn).2.1 _ (List.getElem_mem hin) h2
          · have hw2 : ∀ (j : Nat) (h : j < wordsQ.length), j < i + 1 → wordsQ[j] ≠ s := by
              intro j hj h3
              by_cases hji : j = i
              · subst hji
                exact h2
              · exact hw j hj (by omega)
            refine sk (sg ?_)
            refine nx ?_
            refine rg (sg ?_)
            simp (disch := omega) only [wrap_succ]
            refine ln (19 - (i + 1)) [] ?_ ?_
            · omega
            exact ⟨i + 1, by omega, by omega, hw2, keq⟩
        · have hnw : ∀ w ∈ wordsQ, w ≠ s := fun w hwm => by
            obtain ⟨j, hj, rfl⟩ := List.getElem_of_mem hwm
            exact hw j hj (by omega)
          refine xt (sg ?_)
          refine lx (g := sg ?_)
          refine nx ?_
          refine sq fun _ _ => ?_
          refine rg (sg ?_)
          refine nx ?_
          refine rt ?_
          refine f1 (g := sg ?_)
          refine ax [] ⟨congrArg A.bool ?_, rfl⟩
          rw [Bool.eq_iff_iff, nameB_iff, Bool.and_eq_true, decide_eq_true_eq, decide_eq_true_eq]
          constructor
          · rintro ⟨h1, h2⟩
            exact ⟨hall, hnw, by omega, by omega⟩
          · rintro ⟨_, _, h1, h2⟩
            omega

end Go.Proofs.YthinpbnnpelhhaaGreatDoor.V
