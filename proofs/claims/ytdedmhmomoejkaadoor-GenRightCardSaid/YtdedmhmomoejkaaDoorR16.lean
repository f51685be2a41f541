import Derived.Test.YtdedmhmomoejkaaDoorR15
namespace Go.Proofs.YtdedmhmomoejkaaDoor.V
open Go Go.RowKit Go.Proofs.YtdedmhmomoejkaaDoorW.PrintLast
open Go.Proofs
set_option linter.unusedVariables false
set_option linter.unusedSimpArgs false
attribute [local irreducible] awp
set_option maxRecDepth 100000
/-! What oneS draws, and what tables there are then. -/
theorem nm_cases (i : Int) (h0 : 0 ≤ i) (h1 : i < 3) : (i = 0 ∧ nameS i = ⟨#[116, 48]⟩) ∨ (i = 1 ∧ nameS i = ⟨#[116, 49]⟩) ∨ (i = 2 ∧ nameS i = ⟨#[116, 50]⟩) := by
  rcases (by omega : i = 0 ∨ i = 1 ∨ i = 2) with rfl | rfl | rfl
  · exact .inl ⟨rfl, by decide⟩
  · exact .inr (.inl ⟨rfl, by decide⟩)
  · exact .inr (.inr ⟨rfl, by decide⟩)
theorem nm_inj (i j : Int) (h0 : 0 ≤ i) (h1 : i < 3) (g0 : 0 ≤ j) (g1 : j < 3) (h : nameS i = nameS j) : i = j := by
  rcases nm_cases i h0 h1 with ⟨rfl, e⟩ | ⟨rfl, e⟩ | ⟨rfl, e⟩ <;> rcases nm_cases j g0 g1 with ⟨rfl, f⟩ | ⟨rfl, f⟩ | ⟨rfl, f⟩ <;> first | rfl | (rw [e, f] at h; exact absurd h (by decide))
theorem okN_name (i : Int) (h0 : 0 ≤ i) (h1 : i < 3) : okN (nameS i) := by
  rcases nm_cases i h0 h1 with ⟨rfl, e⟩ | ⟨rfl, e⟩ | ⟨rfl, e⟩ <;> rw [e] <;> refine ⟨fun i hi => ?_, by decide, by decide, by decide⟩ <;>
    (have h2 : i < 2 := hi
     rcases (by omega : i = 0 ∨ i = 1) with rfl | rfl
     · exact .inl (by decide)
     · exact .inr ⟨by decide, .inl (by decide)⟩)
theorem cs_cases (i : Int) (h0 : 0 ≤ i) (h1 : i < 3) : colsS i = col3.take (i + 1).toNat := by
  unfold colsS
  rw [if_neg (by omega)]
theorem okN_one (b : UInt8) (h1 : 97 ≤ b.toNat) (h2 : b.toNat ≤ 122) : okN ⟨#[b]⟩ := by
  refine ⟨fun i hi => ?_, ?_, by show (1 : Nat) ≤ 1; omega, by show (1 : Nat) ≤ 12; omega⟩
  · have h3 : i < 1 := hi
    obtain rfl : i = 0 := by omega
    exact .inl ⟨by show (97 : Int) ≤ (b.toNat : Int); omega, by show (b.toNat : Int) ≤ 122; omega⟩
  · intro x hx e
    subst e
    have h : (⟨#[b]⟩ : ByteArray).size ≠ 1 := by
      have : ∀ y ∈ words, y.size ≠ 1 := by decide
      exact this _ hx
    exact h rfl
theorem okK_cols (i : Int) (h0 : 0 ≤ i) (h1 : i < 3) : okK (colsS i) := by
  rw [cs_cases i h0 h1]
  have a1 : okN ⟨#[97]⟩ := okN_one 97 (by decide) (by decide)
  have a2 : okN ⟨#[98]⟩ := okN_one 98 (by decide) (by decide)
  have a3 : okN ⟨#[99]⟩ := okN_one 99 (by decide) (by decide)
  have hall : ∀ c ∈ col3, okN c.nm ∧ 1 ≤ c.ty ∧ c.ty ≤ 3 := by
    intro c hc
    simp only [col3, List.mem_cons, List.not_mem_nil, or_false] at hc
    rcases hc with rfl | rfl | rfl
    · exact ⟨a1, by decide, by decide⟩
    · exact ⟨a2, by decide, by decide⟩
    · exact ⟨a3, by decide, by decide⟩
  refine ⟨fun c hc => hall c (List.mem_of_mem_take hc), fun j k hj hk => ?_, ?_, ?_⟩
  · have hl : (col3.take (i + 1).toNat).length ≤ 3 := by rw [List.length_take]; exact Nat.min_le_right _ _
    rw [List.getElem_take, List.getElem_take]
    have hj3 : j < 3 := by omega
    rcases (by omega : j = 1 ∧ k = 0 ∨ j = 2 ∧ k = 0 ∨ j = 2 ∧ k = 1) with ⟨rfl, rfl⟩ | ⟨rfl, rfl⟩ | ⟨rfl, rfl⟩
    · exact (show (⟨#[97]⟩ : ByteArray) ≠ ⟨#[98]⟩ by decide)
    · exact (show (⟨#[97]⟩ : ByteArray) ≠ ⟨#[99]⟩ by decide)
    · exact (show (⟨#[98]⟩ : ByteArray) ≠ ⟨#[99]⟩ by decide)
  · rw [List.length_take]
    show 1 ≤ min _ 3
    omega
  · rw [List.length_take]
    show min _ 3 ≤ 6
    omega
theorem okA_cols (i : Int) (h0 : 0 ≤ i) (h1 : i < 3) : okA (colsS i) := by
  rcases (by omega : i = 0 ∨ i = 1 ∨ i = 2) with rfl | rfl | rfl <;> exact ⟨by decide, rfl, rfl⟩
theorem okC_cell (c : Co) (hc : c ∈ col3) (a : Int) : okC c.ty c.nl (cellS c.ty a).1 := by
  simp only [col3, List.mem_cons, List.not_mem_nil, or_false] at hc
  rcases hc with rfl | rfl | rfl
  · exact ⟨by decide, by decide, fun h => (nomatch h), fun _ h => absurd h (by decide), fun _ _ => ⟨rfl, .inl rfl⟩⟩
  · unfold cellS
    rw [if_neg (show ¬ (3 : Int) = 1 by decide), if_pos (show (3 : Int) = 3 from rfl)]
    have h4 := drw_rng 4 a (by omega) (by omega)
    by_cases h : 0 < drw 4 a
    · rw [if_pos h]
      refine ⟨by decide, by decide, fun h => (nomatch h), fun _ _ => ⟨rfl, ?_⟩, fun _ h => absurd rfl h⟩
      show (repS (abc (drw 3 (nxt a))) (drw 4 a)).size ≤ 40
      have e : drw 4 a = ((drw 4 a).toNat : Int) := by omega
      rw [e, repS_size]
      have ha : (abc (drw 3 (nxt a))).size = 1 := by unfold abc; split <;> (try split) <;> rfl
      rw [ha]
      omega
    · rw [if_neg h]
      exact ⟨by decide, by decide, fun _ => ⟨rfl, rfl, rfl⟩, fun h => (nomatch h), fun h => (nomatch h)⟩
  · unfold cellS
    rw [if_neg (show ¬ (2 : Int) = 1 by decide), if_neg (show ¬ (2 : Int) = 3 by decide)]
    have h3 := drw_rng 3 a (by omega) (by omega)
    by_cases h : 0 < drw 3 a
    · rw [if_pos h]
      refine ⟨by decide, by decide, fun h => (nomatch h), fun _ h => absurd h (show ¬ (2 : Int) = 3 by decide), fun _ _ => ⟨rfl, .inr ?_⟩⟩
      show IntKind.i64.wrap (drw 3 a - 1) = 0 ∨ IntKind.i64.wrap (drw 3 a - 1) = 1
      rw [IntKind.wrap_i64]
      omega
    · rw [if_neg h]
      exact ⟨by decide, by decide, fun _ => ⟨rfl, rfl, rfl⟩, fun h => (nomatch h), fun h => (nomatch h)⟩
theorem okR_nil : okR [] [] := ⟨rfl, fun i h => absurd h (Nat.not_lt_zero _)⟩
theorem okR_snoc {l : List Co} {r : List Ce} {c : Co} {x : Ce} (h : okR l r) (hx : okC c.ty c.nl x) : okR (l ++ [c]) (r ++ [x]) := by
  refine ⟨by rw [List.length_append, List.length_append, h.1]; rfl, fun i h1 h2 => ?_⟩
  rw [List.length_append] at h1 h2
  simp only [List.length_cons, List.length_nil] at h1 h2
  by_cases hi : i < l.length
  · have hr : i < r.length := by rw [h.1]; exact hi
    rw [List.getElem_append_left hi, List.getElem_append_left hr]
    exact h.2 i hi hr
  · have e : i = l.length := by omega
    subst e
    rw [List.getElem_append_right (Nat.le_refl _), List.getElem_append_right (by rw [h.1]; exact Nat.le_refl _)]
    simpa [h.1] using hx
theorem okR_rowS (n : Nat) (hn : n ≤ 3) (a : Int) : okR (col3.take n) (rowS (col3.take n) a).1 := by
  induction n with
  | zero => exact okR_nil
  | succ n ih =>
    have e : col3.take (n + 1) = col3.take n ++ [col3[n]'(by show n < 3; omega)] := by rw [List.take_add_one, List.getElem?_eq_getElem]; rfl
    rw [e, rowS_snoc]
    exact okR_snoc (ih (by omega)) (okC_cell _ (List.getElem_mem _) _)
theorem okR_rowsS (n m : Nat) (hn : n ≤ 3) (a : Int) : ∀ r ∈ (rowsS (col3.take n) m a).1, okR (col3.take n) r := by
  induction m with
  | zero => exact fun r h => (nomatch h)
  | succ m ih =>
    intro r hr
    rcases List.mem_append.1 hr with h | h
    · exact ih r h
    · rw [List.mem_singleton.1 h]
      exact okR_rowS n hn _
/-- A table that such operations make. -/
def okT (t : Tb) : Prop := ∃ i : Int, 0 ≤ i ∧ i < 3 ∧ t.nm = nameS i ∧ t.cols = colsS i ∧ (∀ r ∈ t.rows, okR (colsS i) r) ∧ t.rows.length ≤ 200
/-- An operation that is drawn. -/
def okO (o : Opn) : Prop := ∃ i : Int, 0 ≤ i ∧ i < 3 ∧ (o = ⟨1, nameS i, colsS i, [], pr0, qu0⟩ ∨ (∃ rows, (∀ r ∈ rows, okR (colsS i) r) ∧ rows.length ≤ 4 ∧ o = ⟨3, nameS i, [], rows, pr0, qu0⟩) ∨ (∃ v, o = ⟨4, nameS i, [], [], prA 3 v, qu0⟩) ∨ (∃ v ag, (∀ x ∈ ag, okAg x) ∧ ag.length ≤ 4 ∧ o = ⟨9, ⟨#[]⟩, [], [], pr0, quA (nameS i) v ag⟩) ∨ o = ⟨5, nameS i, [], [], pr0, qu0⟩ ∨ o = ⟨6, ⟨#[]⟩, [], [], pr0, qu0⟩ ∨ o = ⟨8, nameS i, [], [], pr0, qu0⟩)
theorem okO_one (a : Int) : okO (oneS a).1 := by
  have h3 := drw_rng 3 (nxt a) (by omega) (by omega)
  refine ⟨drw 3 (nxt a), h3.1, h3.2, ?_⟩
  unfold oneS
  simp only
  split
  · exact .inl rfl
  · split
    · refine .inr (.inl ⟨_, ?_, ?_, rfl⟩)
      · rw [cs_cases _ h3.1 h3.2]
        unfold rows1
        exact okR_rowsS _ _ (by omega) _
      · unfold rows1
        rw [rowsS_len]
        have h4 := drw_rng 4 (nxt (nxt a)) (by omega) (by omega)
        omega
    · split
      · exact .inr (.inr (.inl ⟨_, rfl⟩))
      · split
        · refine .inr (.inr (.inr (.inl ⟨_, _, ?_, ?_, rfl⟩)))
          · intro x hx
            split at hx
            · simp only [aggs2, List.mem_cons, List.not_mem_nil, or_false] at hx
              rcases hx with rfl | rfl
              · exact .inl ⟨rfl, rfl⟩
              · exact .inr ⟨rfl, rfl⟩
            · exact nomatch hx
          · split <;> decide
        · split
          · exact .inr (.inr (.inr (.inr (.inl rfl))))
          · split
            · exact .inr (.inr (.inr (.inr (.inr (.inl rfl)))))
            · exact .inr (.inr (.inr (.inr (.inr (.inr rfl)))))

end Go.Proofs.YtdedmhmomoejkaaDoor.V
