import Derived.Test.YthinpbnnpelhhaaGreatDoorS4
namespace Go.Proofs.YthinpbnnpelhhaaGreatDoor.V
open Go Go.RowKit Go.Proofs.YthinpbnnpelhhaaGreatDoorW.PrintLast
open Go.Proofs
set_option linter.unusedVariables false
set_option linter.unusedSimpArgs false
attribute [local irreducible] awp
theorem scanL_err (n : Nat) : ∀ (N : Nat) (l : List UInt8) (i : Nat) (acc : List Tk), l.length ≤ N → (scanL n l i acc).2.2 ≠ 0 → (scanL n l i acc).1 = [] := by
  intro N
  induction N with
  | zero =>
    intro l i acc h h0
    obtain rfl : l = [] := List.eq_nil_of_length_eq_zero (by omega)
    rw [scanL_nil] at h0
    exact absurd rfl h0
  | succ N ih =>
    intro l i acc h h0
    cases l with
    | nil => rw [scanL_nil] at h0; exact absurd rfl h0
    | cons c q =>
      have hq : q.length ≤ N := by simpa using h
      rw [scanL_cons] at h0 ⊢
      by_cases hb : blkC c = true
      · rw [if_pos hb] at h0 ⊢
        exact ih q (i + 1) acc hq h0
      · rw [if_neg hb] at h0 ⊢
        by_cases ho : (oneL (c :: q)).2 = 0
        · rw [if_pos ho]
        · rw [if_neg ho] at h0 ⊢
          exact ih ((c :: q).drop (oneL (c :: q)).2) (i + (oneL (c :: q)).2) _ (by rw [List.length_drop]; simp; omega) h0
theorem allT_err (s : ByteArray) (h : (allT s).2.2 ≠ 0) : (allT s).1 = [] := by
  unfold allT at h ⊢
  split
  · rfl
  · rename_i h1
    rw [if_neg h1] at h
    exact scanL_err _ _ _ _ _ (Nat.le_refl _) h
/-- The tokens of two texts with a line's end between them. -/
theorem allT_join (a b : ByteArray) (ha : a.size ≤ 150) (hb : b.size ≤ 150) (h1 : (allT a).2.2 = 0) (h2 : (allT b).2.2 = 0) :
    ∃ T, (allT a).1 = T ++ [⟨0, ⟨#[]⟩, 0, a.size⟩] ∧ allT (a ++ ⟨#[10]⟩ ++ b) = (T ++ (allT b).1.map (shT (a.size + 1)), ((a.size + 1 + b.size : Nat) : Int), 0) := by
  have ea : allT a = scanL a.size (bsL a) 0 [] := if_neg (by omega)
  have eb : allT b = scanL b.size (bsL b) 0 [] := if_neg (by omega)
  have es : (a ++ ⟨#[10]⟩ ++ b : ByteArray).size = a.size + 1 + b.size := by simp [ByteArray.size_append]; rfl
  have el : bsL (a ++ ⟨#[10]⟩ ++ b) = bsL a ++ 10 :: bsL b := by simp [bsL, ByteArray.data_append]
  have ez : allT (a ++ ⟨#[10]⟩ ++ b) = scanL (a.size + 1 + b.size) (bsL a ++ 10 :: bsL b) 0 [] := by
    unfold allT
    rw [es, el, if_neg (by omega)]
  rw [ea] at h1 ⊢
  rw [eb] at h2 ⊢
  rw [ez]
  obtain ⟨T, h3, h4⟩ := scan_join a.size (a.size + 1 + b.size) (bsL b) _ (bsL a) 0 [] (Nat.le_refl _) h1
  refine ⟨T, by rw [h3]; rfl, ?_⟩
  have h5 := scan_shift b.size (a.size + 1) T _ (bsL b) 0 [] (Nat.le_refl _) h2
  rw [h4, len_bsL, ← h5]
  simp

end Go.Proofs.YthinpbnnpelhhaaGreatDoor.V
