import Derived.Test.YthinpbnnpelhhaaGreatDoorS6
namespace Go.Proofs.YthinpbnnpelhhaaGreatDoor.V
open Go Go.RowKit Go.Proofs.YthinpbnnpelhhaaGreatDoorW.PrintLast
open Go.Proofs
set_option linter.unusedVariables false
set_option linter.unusedSimpArgs false
attribute [local irreducible] awp
theorem scanL_at (n : Nat) : ∀ (N : Nat) (l : List UInt8) (i : Nat) (acc : List Tk), l.length ≤ N → i + l.length ≤ n → (∀ t ∈ acc, 0 ≤ t.at_ ∧ t.at_ ≤ (n : Int)) → ∀ t ∈ (scanL n l i acc).1, 0 ≤ t.at_ ∧ t.at_ ≤ (n : Int) := by
  intro N
  induction N with
  | zero =>
    intro l i acc h hi ha t ht
    obtain rfl : l = [] := List.eq_nil_of_length_eq_zero (by omega)
    rw [scanL_nil] at ht
    rcases List.mem_append.1 ht with h1 | h1
    · exact ha t h1
    · obtain rfl := List.mem_singleton.1 h1
      exact ⟨by show (0 : Int) ≤ (n : Int); omega, by show (n : Int) ≤ (n : Int); omega⟩
  | succ N ih =>
    intro l i acc h hi ha t ht
    cases l with
    | nil =>
      rw [scanL_nil] at ht
      rcases List.mem_append.1 ht with h1 | h1
      · exact ha t h1
      · obtain rfl := List.mem_singleton.1 h1
        exact ⟨by show (0 : Int) ≤ (n : Int); omega, by show (n : Int) ≤ (n : Int); omega⟩
    | cons c q =>
      have hq : q.length ≤ N := by simpa using h
      have hi2 : i + (q.length + 1) ≤ n := by simpa using hi
      rw [scanL_cons] at ht
      by_cases hb : blkC c = true
      · rw [if_pos hb] at ht
        exact ih q (i + 1) acc hq (by omega) ha t ht
      · rw [if_neg hb] at ht
        by_cases ho : (oneL (c :: q)).2 = 0
        · rw [if_pos ho] at ht
          exact absurd ht List.not_mem_nil
        · rw [if_neg ho] at ht
          have hle := (oneL_le (c :: q)).1
          have hlen : ((c :: q).drop (oneL (c :: q)).2).length = q.length + 1 - (oneL (c :: q)).2 := by rw [List.length_drop]; rfl
          have hle2 : (oneL (c :: q)).2 ≤ q.length + 1 := by simpa using hle
          refine ih _ _ _ (by rw [hlen]; omega) (by rw [hlen]; omega) ?_ t ht
          intro t2 ht2
          rcases List.mem_append.1 ht2 with h1 | h1
          · exact ha t2 h1
          · obtain rfl := List.mem_singleton.1 h1
            exact ⟨by show (0 : Int) ≤ (i : Int); omega, by show (i : Int) ≤ (n : Int); omega⟩
theorem allT_at (s : ByteArray) : ∀ t ∈ (allT s).1, 0 ≤ t.at_ ∧ t.at_ ≤ (s.size : Int) := by
  intro t ht
  unfold allT at ht
  split at ht
  · exact absurd ht List.not_mem_nil
  · exact scanL_at _ _ _ _ _ (Nat.le_refl _) (by rw [len_bsL]; omega) (fun t h => absurd h List.not_mem_nil) t ht
theorem wj_lo2 (T : List Tk) (e : Tk) (M : List Tk) {i : Nat} (h : i < T.length) : ∃ t : Tk, elemsOf ((T ++ M).map cTk) i = el (cTk t) ∧ elemsOf ((T ++ [e]).map cTk) i = el (cTk t) := by
  refine ⟨T[i], ?_, ?_⟩
  · rw [elems_lt (by simp; omega)]
    rw [List.getElem_map, List.getElem_append_left h]
  · rw [elems_lt (by simp; omega)]
    rw [List.getElem_map, List.getElem_append_left h]
theorem wj_hi2 (T : List Tk) (M : List Tk) (j : Nat) {i : Nat} (h : T.length ≤ i) (h2 : i < T.length + M.length) : ∃ t : Tk, t ∈ M ∧ elemsOf ((T ++ M.map (shT j)).map cTk) i = el (cTk (shT j t)) ∧ elemsOf (M.map cTk) (i - T.length) = el (cTk t) := by
  refine ⟨M[i - T.length]'(by omega), List.getElem_mem _, ?_, ?_⟩
  · rw [elems_lt (by simp; omega)]
    rw [List.getElem_map, List.getElem_append_right h, List.getElem_map]
  · rw [elems_lt (by simp; omega)]
    simp
theorem wj2 (x : Int) (a : Nat) (h0 : 0 ≤ x) (hx : x ≤ 400) (ha : a ≤ 400) : IntKind.i64.wrap (IntKind.i64.wrap (x + (a : Int)) + 1) = x + ((a + 1 : Nat) : Int) := by
  have h1 : IntKind.i64.wrap (x + (a : Int)) = x + (a : Int) := by rw [IntKind.wrap_i64]; omega
  rw [h1, IntKind.wrap_i64]
  omega

end Go.Proofs.YthinpbnnpelhhaaGreatDoor.V
