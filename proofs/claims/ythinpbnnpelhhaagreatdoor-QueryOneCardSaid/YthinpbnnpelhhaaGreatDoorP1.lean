import Derived.Test.YthinpbnnpelhhaaGreatDoorP0
namespace Go.Proofs.YthinpbnnpelhhaaGreatDoor.V
open Go Go.RowKit Go.Proofs.YthinpbnnpelhhaaGreatDoorW.PrintLast
open Go.Proofs
set_option linter.unusedVariables false
set_option linter.unusedSimpArgs false
attribute [local irreducible] awp
/-! Which predicates may be. -/
/-! Some law of a predicate and of all within it. -/
mutual
def allP (f : Pr → Bool) : Pr → Bool
  | .mk o c m v k p l => f (.mk o c m v k p l) && allPs f l
def allPs (f : Pr → Bool) : List Pr → Bool
  | [] => true
  | x :: r => allP f x && allPs f r
end
theorem allPs_all (f : Pr → Bool) : ∀ l, allPs f l = l.all (allP f)
  | [] => by rw [allPs]; rfl
  | x :: r => by rw [allPs, allPs_all f r]; rfl
theorem allP_eq (f : Pr → Bool) (p : Pr) : allP f p = (f p && p.kids.all (allP f)) := by
  obtain ⟨o, c, m, v, k, pt, ks⟩ := p
  rw [allP, allPs_all]
  rfl
/-- All, as far as some depth, counted: how the program goes through them. -/
def evL (f : Int → Pr → Bool × Int) : Int → List Pr → Bool × Int
  | n, [] => (true, n)
  | n, k :: r => if (f n k).1 then evL f (f n k).2 r else (false, (f n k).2)
def evP (g : Pr → Bool) : Nat → Int → Pr → Bool × Int
  | 0, n, _ => (false, n)
  | d + 1, n, p => if n + 1 ≤ 16 ∧ g p = true then evL (evP g d) (n + 1) p.kids else (false, n + 1)
theorem evL_is (g : Pr → Bool) (d : Nat) (ih : ∀ (n : Int) (p : Pr), n ≤ 16 → (allP g p = true ∧ p.dep ≤ d ∧ n + p.cnt ≤ 16 → evP g d n p = (true, n + p.cnt)) ∧ (¬ (allP g p = true ∧ p.dep ≤ d ∧ n + p.cnt ≤ 16) → (evP g d n p).1 = false)) :
    ∀ (l : List Pr) (n : Int), n ≤ 16 → (l.all (allP g) = true ∧ deps l ≤ d ∧ n + cnts l ≤ 16 → evL (evP g d) n l = (true, n + cnts l)) ∧ (¬ (l.all (allP g) = true ∧ deps l ≤ d ∧ n + cnts l ≤ 16) → (evL (evP g d) n l).1 = false)
  | [], n, hn => by
    simp only [deps, cnts, evL, List.all_nil]
    refine ⟨fun _ => by simp, fun h => absurd ⟨trivial, by omega, by omega⟩ h⟩
  | k :: r, n, hn => by
    have h1 := ih n k hn
    have hk := cnt_pos k
    simp only [deps, cnts, List.all_cons]
    unfold evL
    by_cases hK : allP g k = true ∧ k.dep ≤ d ∧ n + k.cnt ≤ 16
    · have h3 := h1.1 hK
      rw [h3]
      have h2 := evL_is g d ih r (n + k.cnt) hK.2.2
      obtain ⟨hK1, hK2, hK3⟩ := hK
      simp only [if_true, hK1, Bool.true_and]
      constructor
      · intro h
        rw [h2.1 ⟨h.1, by omega, by omega⟩]
        congr 1
        omega
      · intro h
        exact h2.2 fun h4 => h ⟨h4.1, by omega, by omega⟩
    · have h3 := h1.2 hK
      rw [h3, if_neg (by decide)]
      refine ⟨fun h => absurd ⟨(Bool.and_eq_true _ _ ▸ h.1).1, by omega, by omega⟩ hK, fun _ => rfl⟩
theorem evP_is (g : Pr → Bool) : ∀ (d : Nat) (n : Int) (p : Pr), n ≤ 16 → (allP g p = true ∧ p.dep ≤ d ∧ n + p.cnt ≤ 16 → evP g d n p = (true, n + p.cnt)) ∧ (¬ (allP g p = true ∧ p.dep ≤ d ∧ n + p.cnt ≤ 16) → (evP g d n p).1 = false)
  | 0, n, p, hn => by
    have := dep_eq p
    exact ⟨fun h => by omega, fun _ => rfl⟩
  | d + 1, n, p, hn => by
    have hd := dep_eq p
    have hc := cnt_eq p
    rw [allP_eq]
    unfold evP
    by_cases h1 : n + 1 ≤ 16 ∧ g p = true
    · rw [if_pos h1]
      have h2 := evL_is g d (fun n p => evP_is g d n p) p.kids (n + 1) h1.1
      rw [h1.2, Bool.true_and]
      constructor
      · intro h
        rw [h2.1 ⟨h.1, by omega, by omega⟩]
        congr 1
        omega
      · intro h
        exact h2.2 fun h4 => h ⟨h4.1, by omega, by omega⟩
    · rw [if_neg h1]
      refine ⟨fun h => absurd ⟨by omega, (Bool.and_eq_true _ _ ▸ h.1).1⟩ h1, fun _ => rfl⟩
/-- Both ways of asking whether one may be. -/
theorem may_same (g : Pr → Bool) (p : Pr) : (evP g 6 0 p).1 = (decide (szP 6 16 p ≤ 16) && allP g p) := by
  have h1 := evP_is g 6 0 p (by omega)
  have h2 := szP_is 6 16 p (by omega)
  by_cases hs : p.dep ≤ 6 ∧ (p.cnt : Int) ≤ 16
  · rw [h2.1 hs, decide_eq_true hs.2, Bool.true_and]
    cases ha : allP g p
    · exact h1.2 fun h => absurd (ha ▸ h.1) (by decide)
    · rw [h1.1 ⟨ha, hs.1, by omega⟩]
  · rw [decide_eq_false (by have := h2.2 hs; omega), Bool.false_and]
    exact h1.2 fun h => hs ⟨h.2.1, by omega⟩
theorem evP_n (g : Pr → Bool) : ∀ (d : Nat) (n : Int) (p : Pr), 0 ≤ n → n ≤ 16 → 0 ≤ (evP g d n p).2 ∧ (evP g d n p).2 ≤ 17 ∧ ((evP g d n p).1 = true → (evP g d n p).2 ≤ 16)
  | 0, n, p, h0, h => ⟨h0, by show n ≤ 17; omega, fun h => by simp [evP] at h⟩
  | d + 1, n, p, h0, h => by
    have key : ∀ (l : List Pr) (n : Int), 0 ≤ n → n ≤ 16 → 0 ≤ (evL (evP g d) n l).2 ∧ (evL (evP g d) n l).2 ≤ 17 ∧ ((evL (evP g d) n l).1 = true → (evL (evP g d) n l).2 ≤ 16) := by
      intro l
      induction l with
      | nil => intro n h0 h; exact ⟨h0, by show n ≤ 17; omega, fun _ => h⟩
      | cons k r ih =>
        intro n h0 h
        have h1 := evP_n g d n k h0 h
        unfold evL
        by_cases hk : (evP g d n k).1 = true
        · rw [if_pos hk]
          exact ih _ h1.1 (h1.2.2 hk)
        · rw [if_neg hk]
          exact ⟨h1.1, h1.2.1, fun h => by simp at h⟩
    unfold evP
    by_cases h1 : n + 1 ≤ 16 ∧ g p = true
    · rw [if_pos h1]
      exact key _ _ (by omega) h1.1
    · rw [if_neg h1]
      exact ⟨by show 0 ≤ n + 1; omega, by show n + 1 ≤ 17; omega, fun h => by simp at h⟩

end Go.Proofs.YthinpbnnpelhhaaGreatDoor.V
