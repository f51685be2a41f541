import Derived.Test.YthinpbnnpelhhaaGreatDoorW11
namespace Go.Proofs.YthinpbnnpelhhaaGreatDoor.V
open Go Go.RowKit Go.Proofs.YthinpbnnpelhhaaGreatDoorW.PrintLast
open Go.Proofs
set_option linter.unusedVariables false
set_option linter.unusedSimpArgs false
attribute [local irreducible] awp
/-! Two texts with a line's end between them: the tokens of both. -/
theorem run_join (p : UInt8 → Bool) (hp : p 10 = false) (r : List UInt8) : ∀ q, runL p (q ++ 10 :: r) = runL p q
  | [] => by
    show runL p (10 :: r) = 0
    rw [runL_cons, hp]
    rfl
  | c :: q => by
    rw [List.cons_append, runL_cons, runL_cons, run_join p hp r q]
theorem quot_join (r : List UInt8) : ∀ (q : List UInt8) (x : List UInt8 × Nat), quotL q = some x → quotL (q ++ 10 :: r) = some x
  | [], x, h => by cases h
  | c :: q, x, h => by
    by_cases hc : c.toNat = 39
    · cases q with
      | nil =>
        rw [quotL_end (r := []) hc (fun d q h => (nomatch h))] at h
        rw [← h]
        exact quotL_end hc (fun d q h => by
          injection h with h1 h2
          subst h1
          decide)
      | cons d q =>
        by_cases hd : d.toNat = 39
        · rw [quotL_two hc hd] at h
          obtain ⟨y, hy, rfl⟩ := Option.map_eq_some_iff.1 h
          rw [List.cons_append, List.cons_append, quotL_two hc hd, quot_join r q y hy]
          rfl
        · rw [quotL_end (r := d :: q) hc (fun e q h => by injection h with h1 h2; subst h1; exact hd)] at h
          rw [← h]
          exact quotL_end hc (fun e q h => by injection h with h1 h2; subst h1; exact hd)
    · rw [quotL_ne hc] at h
      obtain ⟨y, hy, rfl⟩ := Option.map_eq_some_iff.1 h
      rw [List.cons_append, quotL_ne hc, quot_join r q y hy]
      rfl
theorem mark_join (c : UInt8) (q r : List UInt8) : markL (c :: (q ++ 10 :: r)) = markL (c :: q) := by
  cases q with
  | nil =>
    have h2 : mark2 c 10 = false := by simp [mark2]
    show (if mark2 c 10 then 2 else if mark1 c then 1 else 0) = if mark1 c then 1 else 0
    rw [h2]
    rfl
  | cons d q => rfl
theorem take_join {k : Nat} {l r : List UInt8} (h : k ≤ l.length) : (l ++ r).take k = l.take k := List.take_append_of_le_length h
theorem one_join (c : UInt8) (q r : List UInt8) (h : (oneL (c :: q)).2 ≠ 0) : oneL (c :: (q ++ 10 :: r)) = oneL (c :: q) := by
  have hn := runL_le namC q
  have hg := runL_le digC q
  have hm := markL_le (c :: q)
  rw [oneL_cons] at h ⊢
  rw [oneL_cons, run_join namC (by decide), run_join digC (by decide), mark_join]
  have e1 : (c :: (q ++ 10 :: r)).take (runL namC q + 1) = (c :: q).take (runL namC q + 1) := take_join (l := c :: q) (by simp; omega)
  have e2 : (c :: (q ++ 10 :: r)).take (runL digC q + 1) = (c :: q).take (runL digC q + 1) := take_join (l := c :: q) (by simp; omega)
  have e3 : (c :: (q ++ 10 :: r)).take (markL (c :: q)) = (c :: q).take (markL (c :: q)) := take_join (l := c :: q) hm
  rw [e1, e2, e3]
  split
  · rfl
  · rename_i h1
    split
    · rfl
    · rename_i h2
      split
      · rename_i h3
        rw [if_neg h1, if_neg h2, if_pos h3] at h
        cases hq : quotL q with
        | none => rw [hq] at h; exact absurd rfl h
        | some x => rw [quot_join r q x hq]
      · rfl
theorem scan_join (n n' : Nat) (r : List UInt8) : ∀ (N : Nat) (l : List UInt8) (i : Nat) (acc : List Tk), l.length ≤ N → (scanL n l i acc).2.2 = 0 →
    ∃ T, (scanL n l i acc).1 = acc ++ T ++ [⟨0, ⟨#[]⟩, 0, n⟩] ∧ scanL n' (l ++ 10 :: r) i acc = scanL n' r (i + l.length + 1) (acc ++ T) := by
  intro N
  induction N with
  | zero =>
    intro l i acc h _
    obtain rfl : l = [] := List.eq_nil_of_length_eq_zero (by omega)
    refine ⟨[], by rw [scanL_nil, List.append_nil], ?_⟩
    show scanL n' (10 :: r) i acc = _
    rw [scanL_cons, if_pos (by decide), List.append_nil]
    rfl
  | succ N ih =>
    intro l i acc h h0
    cases l with
    | nil =>
      refine ⟨[], by rw [scanL_nil, List.append_nil], ?_⟩
      show scanL n' (10 :: r) i acc = _
      rw [scanL_cons, if_pos (by decide), List.append_nil]
      rfl
    | cons c q =>
      have hq : q.length ≤ N := by simpa using h
      rw [scanL_cons] at h0 ⊢
      rw [List.cons_append, scanL_cons]
      by_cases hb : blkC c = true
      · rw [if_pos hb] at h0 ⊢
        rw [if_pos hb]
        obtain ⟨T, h1, h2⟩ := ih q (i + 1) acc hq h0
        refine ⟨T, h1, ?_⟩
        rw [h2, List.length_cons]
        congr 1
        omega
      · rw [if_neg hb] at h0 ⊢
        rw [if_neg hb]
        by_cases ho : (oneL (c :: q)).2 = 0
        · rw [if_pos ho] at h0
          exact absurd h0 (by show ¬ (2 : Int) = 0; decide)
        · rw [if_neg ho] at h0 ⊢
          rw [one_join c q r ho, if_neg ho]
          have hle := (oneL_le (c :: q)).1
          have hd : (c :: (q ++ 10 :: r)).drop (oneL (c :: q)).2 = (c :: q).drop (oneL (c :: q)).2 ++ 10 :: r := List.drop_append_of_le_length (l₁ := c :: q) hle
          rw [hd]
          obtain ⟨T, h1, h2⟩ := ih ((c :: q).drop (oneL (c :: q)).2) (i + (oneL (c :: q)).2) _ (by rw [List.length_drop]; simp; omega) h0
          refine ⟨⟨(oneL (c :: q)).1.kind, (oneL (c :: q)).1.s, (oneL (c :: q)).1.n, i⟩ :: T, ?_, ?_⟩
          · rw [h1]
            simp
          · rw [h2, List.length_drop]
            simp only [List.append_assoc, List.singleton_append]
            congr 1
            simp at hle ⊢
            omega
def shT (j : Nat) (t : Tk) : Tk := ⟨t.kind, t.s, t.n, t.at_ + j⟩
theorem scan_shift (m j : Nat) (pre : List Tk) : ∀ (N : Nat) (l : List UInt8) (i : Nat) (acc : List Tk), l.length ≤ N → (scanL m l i acc).2.2 = 0 →
    scanL (j + m) l (j + i) (pre ++ acc.map (shT j)) = (pre ++ (scanL m l i acc).1.map (shT j), ((j + m : Nat) : Int), 0) := by
  intro N
  induction N with
  | zero =>
    intro l i acc h _
    obtain rfl : l = [] := List.eq_nil_of_length_eq_zero (by omega)
    rw [scanL_nil, scanL_nil]
    simp [shT, Int.add_comm]
  | succ N ih =>
    intro l i acc h h0
    cases l with
    | nil =>
      rw [scanL_nil, scanL_nil]
      simp [shT, Int.add_comm]
    | cons c q =>
      have hq : q.length ≤ N := by simpa using h
      rw [scanL_cons] at h0 ⊢
      rw [scanL_cons]
      by_cases hb : blkC c = true
      · rw [if_pos hb] at h0 ⊢
        rw [if_pos hb]
        exact ih q (i + 1) acc hq h0
      · rw [if_neg hb] at h0 ⊢
        rw [if_neg hb]
        by_cases ho : (oneL (c :: q)).2 = 0
        · rw [if_pos ho] at h0
          exact absurd h0 (by show ¬ (2 : Int) = 0; decide)
        · rw [if_neg ho] at h0 ⊢
          rw [if_neg ho]
          have h3 := ih ((c :: q).drop (oneL (c :: q)).2) (i + (oneL (c :: q)).2) _ (by rw [List.length_drop]; simp; omega) h0
          rw [← h3, List.map_append, ← List.append_assoc, Nat.add_assoc]
          congr 2
          simp [shT, Int.add_comm]

end Go.Proofs.YthinpbnnpelhhaaGreatDoor.V
