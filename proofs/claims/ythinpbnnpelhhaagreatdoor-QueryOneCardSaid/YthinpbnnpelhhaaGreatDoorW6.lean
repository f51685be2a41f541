import Derived.Test.YthinpbnnpelhhaaGreatDoorW5
namespace Go.Proofs.YthinpbnnpelhhaaGreatDoor.V
open Go Go.RowKit Go.Proofs.YthinpbnnpelhhaaGreatDoorW.PrintLast
open Go.Proofs
set_option linter.unusedVariables false
set_option linter.unusedSimpArgs false
attribute [local irreducible] awp
set_option maxRecDepth 100000
theorem nd_le (k : Nat) : ∀ u, u < 10 ^ (k + 1) → Lib.nDigits u ≤ k + 1 := by
  induction k with
  | zero => intro u h; rw [Lib.nDigits_small (by omega)]; omega
  | succ k ih =>
    intro u h
    rw [Lib.nDigits]
    split
    · omega
    · have := ih (u / 10) (by rw [Nat.pow_succ] at h; omega)
      omega
/-- What a number's text is like. -/
theorem val_shape (neg : Bool) (dl l : List UInt8) (hl : l = if neg then 45 :: dl else dl) (v : Int) (h : valL l = some v) (hne : neg = false → ∀ c r, dl = c :: r → c.toNat ≠ 45) :
    ∃ u : Nat, dl = Lib.decDigits u ∧ u ≤ 9223372036854775808 ∧ v = (if neg then -(u : Int) else u) ∧ (neg = false → u < 9223372036854775808) ∧ Lib.itoa v = l := by
  unfold valL at h
  split at h
  · rename_i w hw
    obtain ⟨r0, r1⟩ := parse_rng hw
    split at h
    · rename_i he
      obtain rfl := Option.some.inj h
      have hi := he
      rw [hl] at he
      by_cases hneg : w < 0
      · obtain ⟨u, rfl⟩ : ∃ u : Nat, w = -(u : Int) := ⟨w.natAbs, by omega⟩
        rw [Lib.itoa_neg u (by omega)] at he
        cases neg with
        | true =>
          simp only [if_true] at he
          injection he with _ he
          exact ⟨u, he.symm, by omega, rfl, (fun h => (nomatch h)), hi⟩
        | false =>
          simp only [Bool.false_eq_true, if_false] at he
          exact absurd rfl (hne rfl 45 _ he.symm)
      · obtain ⟨u, rfl⟩ : ∃ u : Nat, w = u := ⟨w.toNat, by omega⟩
        rw [Lib.itoa_nonneg] at he
        cases neg with
        | true =>
          simp only [if_true] at he
          have hd := dec_dig u 45 (by rw [he]; exact List.mem_cons_self)
          exact absurd hd (by decide)
        | false =>
          simp only [Bool.false_eq_true, if_false] at he
          exact ⟨u, he.symm, by omega, rfl, (fun _ => by omega), hi⟩
    · cases h
  · cases h
theorem val_none (neg : Bool) (dl l : List UInt8) (hl : l = if neg then 45 :: dl else dl) (hne : neg = false → ∀ c r, dl = c :: r → c.toNat ≠ 45) (h : dl.length < 1 ∨ 19 < dl.length ∨ ∃ c ∈ dl, digC c = false) : valL l = none := by
  cases hv : valL l with
  | none => rfl
  | some v =>
    exfalso
    obtain ⟨u, rfl, h1, _, _⟩ := val_shape neg dl l hl v hv hne
    have h2 := nd_le 18 u (by omega)
    have h3 := dec_ne u
    rw [Lib.decDigits_length] at h
    rcases h with h | h | ⟨c, hc, h⟩
    · rw [← Lib.decDigits_length] at h
      exact h3 (List.eq_nil_of_length_eq_zero (by omega))
    · omega
    · rw [dec_dig u c hc] at h; cases h
theorem fold_lt : ∀ (l : List UInt8) (acc : Nat), (∀ c ∈ l, digC c = true) → l.foldl (fun n c => 10 * n + (c.toNat - 48)) acc < (acc + 1) * 10 ^ l.length
  | [], acc, _ => by simp
  | c :: r, acc, h => by
    have h1 := fold_lt r (10 * acc + (c.toNat - 48)) fun d hd => h d (List.mem_cons_of_mem _ hd)
    have h2 := h c List.mem_cons_self
    simp [digC] at h2
    simp only [List.foldl_cons, List.length_cons]
    refine Nat.lt_of_lt_of_le h1 ?_
    rw [Nat.pow_succ, Nat.mul_comm (10 ^ r.length) 10, ← Nat.mul_assoc]
    exact Nat.mul_le_mul_right _ (by omega)
theorem foldV_lt (l : List UInt8) (h : ∀ c ∈ l, digC c = true) : foldV l < 10 ^ l.length := by
  have := fold_lt l 0 h
  rw [Nat.zero_add, Nat.one_mul] at this
  exact this
/-- The number that is told is it, or there is none. -/
theorem val_end (neg : Bool) (dl : List UInt8) (s : ByteArray) (hs : bsL s = if neg then 45 :: dl else dl) (hne : neg = false → ∀ c r, dl = c :: r → c.toNat ≠ 45) (x : Int) (hx : x = if neg then IntKind.i64.wrap (IntKind.u64.wrap (0 - (foldV dl : Int))) else IntKind.i64.wrap (foldV dl : Int)) :
    (ofL (Lib.itoa x) = s → valL (bsL s) = some x) ∧ (ofL (Lib.itoa x) ≠ s → valL (bsL s) = none) := by
  have hr : -9223372036854775808 ≤ x ∧ x < 9223372036854775808 := by
    subst hx
    split <;> (rw [IntKind.wrap_i64]; omega)
  refine ⟨fun h => ?_, fun h => ?_⟩
  · rw [← h]
    exact valL_itoa x hr.1 hr.2
  · cases hv : valL (bsL s) with
    | none => rfl
    | some v =>
      exfalso
      obtain ⟨u, rfl, h1, h2, h3, h4⟩ := val_shape neg dl _ hs v hv hne
      rw [foldV_dec] at hx
      apply h
      have e : x = v := by
        cases neg with
        | true =>
          simp only [if_true] at hx h2
          rw [IntKind.wrap_u64, IntKind.wrap_i64] at hx
          omega
        | false =>
          simp only [Bool.false_eq_true, if_false] at hx h2
          have h3 := h3 rfl
          rw [IntKind.wrap_i64] at hx
          omega
      rw [e, h4]

end Go.Proofs.YthinpbnnpelhhaaGreatDoor.V
