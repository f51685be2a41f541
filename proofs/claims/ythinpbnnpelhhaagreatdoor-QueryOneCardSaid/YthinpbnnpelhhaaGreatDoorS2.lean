import Derived.Test.YthinpbnnpelhhaaGreatDoorS1
namespace Go.Proofs.YthinpbnnpelhhaaGreatDoor.V
open Go Go.RowKit Go.Proofs.YthinpbnnpelhhaaGreatDoorW.PrintLast
open Go.Proofs
set_option linter.unusedVariables false
set_option linter.unusedSimpArgs false
attribute [local irreducible] awp
theorem at_list {s : ByteArray} {p : Nat} {c : UInt8} (h : (bsL s)[p]? = some c) : ∃ hp : p < s.size, s[p]'hp = c ∧ s.get! p = c := by
  obtain ⟨hp, e⟩ := List.getElem?_eq_some_iff.1 h
  have hp2 : p < s.size := by simpa using hp
  refine ⟨hp2, ?_, ?_⟩
  · rw [← e]
    simp [ByteArray.getElem_eq_getElem_data]
  · rw [← e]
    have : s.data[p]! = s.data[p]'hp2 := getElem!_pos s.data p hp2
    simp [ByteArray.get!, this]
theorem at_list' {s : ByteArray} {p : Nat} (hp : p < s.size) : (bsL s)[p]? = some (s.get! p) := by
  have h2 : p < (bsL s).length := by simpa using hp
  obtain ⟨_, _, e⟩ := at_list (List.getElem?_eq_getElem h2)
  rw [List.getElem?_eq_getElem h2, e]
theorem dec_low {s : ByteArray} {p : Nat} {c : UInt8} (h : (bsL s)[p]? = some c) (hc : c.toNat < 128) : Utf8.decode s p = (c.toNat, 1) := by
  obtain ⟨hp, e, _⟩ := at_list h
  rw [decode_ascii s p hp (by rw [e]; exact hc), e]
theorem dec_high {s : ByteArray} {p : Nat} {c : UInt8} (h : (bsL s)[p]? = some c) (hc : 128 ≤ c.toNat) : 128 ≤ (Utf8.decode s p).1 ∧ 1 ≤ (Utf8.decode s p).2 := by
  obtain ⟨hp, e, _⟩ := at_list h
  exact decode_high s p hp (by rw [e]; exact hc)
/-- A rune that is more than one byte takes none below 128. -/
theorem dec_in {s : ByteArray} {p j : Nat} {c e : UInt8} (h : (bsL s)[p]? = some c) (h1 : 1 ≤ j) (h2 : j < (Utf8.decode s p).2) (he : (bsL s)[p + j]? = some e) : 128 ≤ e.toNat := by
  obtain ⟨_, _, e2⟩ := at_list he
  have cont : ∀ k, (decide (p + k < s.size) && (s.get! (p + k)).toNat / 64 == 2) = true → j = k → 128 ≤ e.toNat := by
    intro k hk hjk
    subst hjk
    rw [e2] at hk
    simp only [Bool.and_eq_true, decide_eq_true_eq, beq_iff_eq] at hk
    omega
  unfold Utf8.decode at h2
  simp only at h2
  split at h2
  · simp only at h2; omega
  · split at h2
    · rename_i hk
      simp only [Bool.and_eq_true] at hk
      split at h2
      · simp only at h2
        exact cont 1 (by simpa using hk.2) (by omega)
      · simp only at h2; omega
    · split at h2
      · rename_i hk
        simp only [Bool.and_eq_true] at hk
        split at h2
        · simp only at h2
          rcases (by omega : j = 1 ∨ j = 2) with e | e
          · exact cont 1 (by simpa using hk.1.2) e
          · exact cont 2 (by simpa using hk.2) e
        · simp only at h2; omega
      · split at h2
        · rename_i hk
          simp only [Bool.and_eq_true] at hk
          split at h2
          · simp only at h2
            rcases (by omega : j = 1 ∨ j = 2 ∨ j = 3) with e | e | e
            · exact cont 1 (by simpa using hk.1.1.2) e
            · exact cont 2 (by simpa using hk.1.2) e
            · exact cont 3 (by simpa using hk.2) e
          · simp only at h2; omega
        · simp only at h2; omega
/-! Numbers. -/
theorem parseM_snoc (M : Nat) (d : UInt8) : ∀ (l : List UInt8) (acc : Nat), Lib.parseUintM M acc (l ++ [d]) = match Lib.parseUintM M acc l with
    | .ok a => Lib.parseUintM M a [d]
    | x => x
  | [], acc => rfl
  | c :: r, acc => by
    simp only [List.cons_append, Lib.parseUintM]
    split
    · split
      · rfl
      · split
        · rfl
        · exact parseM_snoc M d r _
    · rfl
theorem dig_toNat {k : Nat} (h : k < 10) : (UInt8.ofNat (48 + k)).toNat = 48 + k := by
  rw [UInt8.toNat_ofNat']
  omega
theorem parseM_dec (u : Nat) (hu : u ≤ 18446744073709551615) : Lib.parseUintM 18446744073709551615 0 (Lib.decDigits u) = .ok u := by
  induction u using Nat.strongRecOn with
  | ind u ih =>
    rw [Lib.decDigits]
    split
    · rename_i h
      simp only [Lib.parseUintM, dig_toNat h]
      rw [if_pos (by omega), if_neg (by omega), if_neg (by omega)]
      simp
    · rename_i h
      rw [parseM_snoc, ih (u / 10) (by omega) (by omega)]
      simp only [Lib.parseUintM, dig_toNat (show u % 10 < 10 by omega)]
      rw [if_pos (by omega), if_neg (by omega), if_neg (by omega)]
      congr 1
      omega
theorem dec_ne (u : Nat) : Lib.decDigits u ≠ [] := by
  rw [Lib.decDigits]
  split <;> simp
/-- Its first byte is a digit. -/
theorem dec_dig (u : Nat) : ∀ c ∈ Lib.decDigits u, digC c = true := by
  induction u using Nat.strongRecOn with
  | ind u ih =>
    rw [Lib.decDigits]
    split
    · rename_i h
      intro c hc
      rw [List.mem_singleton.1 hc]
      simp [digC, dig_toNat h]
      omega
    · rename_i h
      intro c hc
      rcases List.mem_append.1 hc with hc | hc
      · exact ih (u / 10) (by omega) c hc
      · rw [List.mem_singleton.1 hc]
        simp [digC, dig_toNat (show u % 10 < 10 by omega)]
        omega
theorem parse_itoa (v : Int) (h0 : -9223372036854775808 ≤ v) (h1 : v < 9223372036854775808) : Lib.parseIntB 64 (Lib.itoa v) = .ok v := by
  by_cases hneg : v < 0
  · obtain ⟨u, rfl⟩ : ∃ u : Nat, v = -(u : Int) := ⟨v.natAbs, by omega⟩
    rw [Lib.itoa_neg u (by omega)]
    unfold Lib.parseIntB
    simp only [show (45 : UInt8).toNat = 45 from rfl, or_true, if_true, Lib.parseUintB, if_neg (dec_ne u)]
    rw [show (2 : Nat) ^ 64 - 1 = 18446744073709551615 from rfl, parseM_dec u (by omega)]
    simp only [not_true, false_and, if_false, true_and]
    rw [if_neg (by omega)]
  · obtain ⟨u, rfl⟩ : ∃ u : Nat, v = u := ⟨v.toNat, by omega⟩
    rw [Lib.itoa_nonneg]
    have hne := dec_ne u
    have hd := dec_dig u
    have hp := parseM_dec u (by omega)
    generalize Lib.decDigits u = l at hne hd hp
    cases l with
    | nil => exact absurd rfl hne
    | cons c r =>
      have hc := hd c List.mem_cons_self
      simp only [digC, Bool.and_eq_true, decide_eq_true_eq] at hc
      unfold Lib.parseIntB
      have n1 : ¬ c.toNat = 43 := by omega
      have n2 : ¬ c.toNat = 45 := by omega
      simp only [n1, n2, or_self, if_false, Lib.parseUintB, if_neg hne]
      rw [show (2 : Nat) ^ 64 - 1 = 18446744073709551615 from rfl, hp]
      simp only [not_false_eq_true, true_and, false_and, if_false]
      rw [if_neg (by omega)]
theorem valL_itoa (v : Int) (h0 : -9223372036854775808 ≤ v) (h1 : v < 9223372036854775808) : valL (Lib.itoa v) = some v := by
  unfold valL
  rw [parse_itoa v h0 h1]
  simp

end Go.Proofs.YthinpbnnpelhhaaGreatDoor.V
