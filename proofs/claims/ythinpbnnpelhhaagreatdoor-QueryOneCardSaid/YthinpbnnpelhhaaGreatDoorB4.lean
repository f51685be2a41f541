import Derived.Test.YthinpbnnpelhhaaGreatDoorB3
namespace Go.Proofs.YthinpbnnpelhhaaGreatDoor.V
open Go Go.RowKit Go.Proofs.YthinpbnnpelhhaaGreatDoorW.PrintLast
open Go.Proofs
set_option linter.unusedVariables false
set_option linter.unusedSimpArgs false
attribute [local irreducible] awp
set_option maxRecDepth 100000
theorem dec_nam {s : ByteArray} {j : Nat} {b : UInt8} (hb : (bsL s)[j]? = some b) :
    ((97 ≤ ((Utf8.decode s j).1 : Int) ∧ ((Utf8.decode s j).1 : Int) ≤ 122) ↔ letC b = true) ∧ (((48 ≤ ((Utf8.decode s j).1 : Int) ∧ ((Utf8.decode s j).1 : Int) ≤ 57) ∨ ((Utf8.decode s j).1 : Int) = 95) ↔ (digC b = true ∨ b.toNat = 95)) := by
  by_cases hb2 : b.toNat < 128
  · rw [dec_low hb hb2]
    simp [letC, digC]
    omega
  · obtain ⟨h1, _⟩ := dec_high hb (by omega)
    simp [letC, digC]
    omega
set_option maxHeartbeats 8000000 in
theorem c27 (s : ByteArray) (hs : s.size ≤ 1000) : PC Tryz.prog 27 [A.str s] [] (fun r bx => r = A.bool (nameB s) ∧ bx = []) := by
  have hsz := len_bsL s
  refine enter (rs := [.tmp 2]) mx Tryz.func27 Tryz.ntmps27 fun Q0 hQ0 => ?_
  refine sq fun _ _ => ?_
  refine rg (sg ?_)
  refine nx ?_
  refine sq fun _ _ => ?_
  refine sq fun _ _ => ?_
  by_cases h1 : s = ⟨#[]⟩
  · subst h1
    refine rg (sg ?_)
    refine nx ?_
    refine ct (hx := ?_)
    refine sq fun _ _ => ?_
    refine rg (sg ?_)
    refine nx ?_
    refine rt (sg ?_)
    refine f1 (g := sg ?_)
    exact ax [] ⟨congrArg A.bool (by decide), rfl⟩
  · by_cases h2 : (12 : Int) < (s.size : Int)
    · refine rg ?_
      simp only [go_sem, Nat.reduceAdd, Nat.reduceSub, Nat.reduceMul, Nat.reduceLT, Nat.reduceLeDiff, Nat.reduceEqDiff, reduceIte, reduceCtorEq, if_true, if_false, Int.reduceEq, Int.reduceLT, Int.reduceLE, Int.reduceAdd, Int.reduceSub, Int.reduceMul, Int.reduceNeg, Int.reduceToNat, decide_true, decide_false, Nat.reduceBEq, h1, h2]
      refine nx ?_
      refine ct (hx := ?_)
      refine sq fun _ _ => ?_
      refine rg (sg ?_)
      refine nx ?_
      refine rt (sg ?_)
      refine f1 (g := sg ?_)
      refine ax [] ⟨congrArg A.bool ?_, rfl⟩
      rw [Eq.comm, ← Bool.not_eq_true]
      intro hn
      have h3 := ((nameB_iff s).1 hn).2.2
      omega
    · have hz : 1 ≤ s.size := by
        rcases Nat.eq_zero_or_pos s.size with h0 | h0
        · exact absurd (ByteArray.size_eq_zero_iff.1 h0) h1
        · exact h0
      refine rg ?_
      simp only [go_sem, Nat.reduceAdd, Nat.reduceSub, Nat.reduceMul, Nat.reduceLT, Nat.reduceLeDiff, Nat.reduceEqDiff, reduceIte, reduceCtorEq, if_true, if_false, Int.reduceEq, Int.reduceLT, Int.reduceLE, Int.reduceAdd, Int.reduceSub, Int.reduceMul, Int.reduceNeg, Int.reduceToNat, decide_true, decide_false, Nat.reduceBEq, h1, h2]
      refine cl [] (sg ?_)
      refine (c46 _).mono ?_
      rintro r bx ⟨rfl, rfl⟩
      refine sg ?_
      refine nx ?_
      refine cb (fun h3 => ?_) (fun h3 => ?_)
      · refine sq fun _ _ => ?_
        refine rg (sg ?_)
        refine nx ?_
        refine rt (sg ?_)
        refine f1 (g := sg ?_)
        refine ax [] ⟨congrArg A.bool ?_, rfl⟩
        rw [Eq.comm, ← Bool.not_eq_true]
        intro hn
        have h4 := ((nameB_iff s).1 hn).2.1
        obtain ⟨x, hx, hx2⟩ := List.any_eq_true.1 h3
        exact h4 x hx (by simpa using hx2)
      · have hw : ∀ x ∈ wordsQ, x ≠ s := fun x hx hxs => h3 (List.any_eq_true.2 ⟨x, hx, by simpa using hxs⟩)
        refine sk (sg ?_)
        refine nx ?_
        refine sq fun _ _ => ?_
        refine sq fun _ _ => ?_
        refine rg (sg ?_)
        refine nx ?_
        refine bl ?_
        refine lp [0, 19] [0] (fun k σ => ∃ j : Nat, k = s.size - j ∧ j ≤ s.size ∧ (∀ (i : Nat) (c : UInt8), i < j → (bsL s)[i]? = some c → letC c = true ∨ (i ≠ 0 ∧ namC c = true)) ∧ σ = ⟨50, 0, [(0, A.str s), (19, xPtr 0 0)], [.iter s j]⟩) s.size ?_ ?_
        · exact ⟨0, by omega, by omega, fun j c h => absurd h (Nat.not_lt_zero _), keq⟩
        · rintro k σ' ⟨j, hk, hj, hc, rfl⟩ Q1 hQ1
          refine sq fun _ _ => ?_
          refine rg (sg ?_)
          refine ⟨fun hlt => ?_, fun hge => ?_⟩
          · have hat := at_list' hlt
            generalize s.get! j = b at hat
            obtain ⟨hd1, hd2⟩ := dec_nam hat
            have hlow : letC b = true ∨ (digC b = true ∨ b.toNat = 95) → (Utf8.decode s j).2 = 1 := fun h => by
              rw [dec_low hat (by simp [letC, digC] at h; omega)]
            refine nx ?_
            refine sq fun _ _ => ?_
            refine ct (hx := ?_)
            refine sk (sg ?_)
            refine nx ?_
            refine bl ?_
            refine sq fun _ _ => ?_
            refine rg (sg ?_)
            refine nx ?_
            refine sq fun _ _ => ?_
            refine rg (sg ?_)
            refine nx ?_
            refine sq fun _ _ => ?_
            refine rg (sg ?_)
            refine nx ?_
            refine sq fun _ _ => ?_
            refine rg (sg ?_)
            refine And.intro (by simp; omega) ?_
            refine nx ?_
            refine cb (fun h4 => ?_) (fun h4 => ?_)
            · refine sq fun _ _ => ?_
              refine rg (sg ?_)
              refine nx ?_
              refine rt (sg ?_)
              refine lr (g := sg ?_)
              refine f1 (g := sg ?_)
              refine ax [] ⟨congrArg A.bool ?_, rfl⟩
              rw [Eq.comm, ← Bool.not_eq_true]
              intro hn
              have h5 := ((nameB_iff s).1 hn).1 j b hat
              simp at h4
              rcases h5 with h5 | ⟨h5, h6⟩
              · have h7 := hd1.2 h5
                omega
              · simp [namC] at h6
                rcases h6 with (h6 | h6) | h6
                · have h7 := hd1.2 h6
                  omega
                · have h7 := hd2.2 (.inl h6)
                  omega
                · have h7 := hd2.2 (.inr h6)
                  omega
            · have h5 : letC b = true ∨ (j ≠ 0 ∧ (digC b = true ∨ b.toNat = 95)) := by
                by_cases hL : letC b = true
                · exact .inl hL
                · have h6 : ¬ (97 ≤ ((Utf8.decode s j).1 : Int) ∧ ((Utf8.decode s j).1 : Int) ≤ 122) := fun h => hL (hd1.1 h)
                  simp at h4
                  exact .inr ⟨by omega, hd2.1 (by omega)⟩
              have hwd := hlow (h5.imp id fun h => h.2)
              have hc2 : ∀ (i : Nat) (d : UInt8), i < j + 1 → (bsL s)[i]? = some d → letC d = true ∨ (i ≠ 0 ∧ namC d = true) := by
                intro i d hi hd
                by_cases hji : i = j
                · subst hji
                  rw [hat] at hd
                  obtain rfl := Option.some.inj hd
                  refine h5.imp id fun h => ⟨h.1, ?_⟩
                  unfold namC
                  rcases h.2 with h | h
                  · rw [h, Bool.or_true, Bool.true_or]
                  · rw [decide_eq_true h, Bool.or_true]
                · exact hc i d (by omega) hd
              rw [hwd]
              refine sk (sg ?_)
              refine ln (s.size - (j + 1)) [0] ?_ ?_
              · omega
              exact ⟨j + 1, by omega, by omega, hc2, keq⟩
          · refine nx ?_
            refine sq fun _ _ => ?_
            refine cf (hy := ?_)
            refine xt (sg ?_)
            refine lx (g := sg ?_)
            refine nx ?_
            refine sq fun _ _ => ?_
            refine rg (sg ?_)
            refine nx ?_
            refine rt ?_
            refine f1 (g := sg ?_)
            refine ax [] ⟨congrArg A.bool ?_, rfl⟩
            rw [Eq.comm, nameB_iff]
            exact ⟨fun i c hi => hc i c (by obtain ⟨hp, _⟩ := at_list hi; omega) hi, hw, by omega, by omega⟩

end Go.Proofs.YthinpbnnpelhhaaGreatDoor.V
