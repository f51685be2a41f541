import Derived.Test.YthinpbnnpelhhaaGreatDoorS7
import Derived.Lib.ItoaLen
namespace Go.Proofs.YthinpbnnpelhhaaGreatDoor.V
open Go Go.RowKit Go.Proofs.YthinpbnnpelhhaaGreatDoorW.PrintLast
open Go.Proofs
set_option linter.unusedVariables false
set_option linter.unusedSimpArgs false
attribute [local irreducible] awp
/-! A quoted text, and a number's digits, read back. -/
def escL : List UInt8 → List UInt8
  | [] => []
  | c :: r => if c.toNat = 39 then c :: 39 :: escL r else c :: escL r
theorem escL_len : ∀ l, (escL l).length ≤ 2 * l.length
  | [] => Nat.le_refl _
  | c :: r => by
    have := escL_len r
    unfold escL
    split <;> simp <;> omega
theorem escL_snoc (d : UInt8) : ∀ l, escL (l ++ [d]) = escL l ++ (if d.toNat = 39 then [d, 39] else [d])
  | [] => by
    show escL [d] = _
    unfold escL
    split <;> rfl
  | c :: r => by
    rw [List.cons_append, escL, escL_snoc d r, escL]
    split <;> rfl
/-- A text in quotes. -/
def quoS (s : ByteArray) : ByteArray := ofL (39 :: (escL (bsL s) ++ [39]))
theorem quot_esc (r : List UInt8) (hr : ∀ d q, r = d :: q → d.toNat ≠ 39) : ∀ l, quotL (escL l ++ 39 :: r) = some (l, (escL l).length + 1)
  | [] => quotL_end (c := 39) rfl hr
  | c :: q => by
    by_cases h : c.toNat = 39
    · have hc : c = 39 := UInt8.toNat_inj.1 h
      rw [escL, if_pos h]
      show quotL (c :: 39 :: (escL q ++ 39 :: r)) = _
      rw [quotL_two h rfl, quot_esc r hr q, hc]
      rfl
    · rw [escL, if_neg h]
      show quotL (c :: (escL q ++ 39 :: r)) = _
      rw [quotL_ne h, quot_esc r hr q]
      rfl
theorem one_quote (l r : List UInt8) (hr : ∀ d q, r = d :: q → d.toNat ≠ 39) : oneL (39 :: (escL l ++ 39 :: r)) = (⟨3, ofL l, 0, 0⟩, (escL l).length + 2) := by
  rw [oneL_cons, if_neg (by decide), if_neg (by decide), if_pos (by rfl), quot_esc r hr l]
theorem itoa_shape (n : Int) : ∃ c q, Lib.itoa n = c :: q ∧ letC c = false ∧ (digC c = true ∨ c.toNat = 45) ∧ ∀ x ∈ q, digC x = true := by
  unfold Lib.itoa
  split
  · exact ⟨45, _, rfl, by decide, .inr rfl, dec_dig _⟩
  · have h1 := dec_ne n.toNat
    have h2 := dec_dig n.toNat
    cases hd : Lib.decDigits n.toNat with
    | nil => exact absurd hd h1
    | cons c q =>
      rw [hd] at h2
      have hc := h2 c (by simp)
      refine ⟨c, q, rfl, ?_, .inl hc, fun x hx => h2 x (by simp [hx])⟩
      simp [digC] at hc
      simp [letC]
      omega
theorem runL_all (p : UInt8 → Bool) (r : List UInt8) (hr : ∀ d q, r = d :: q → p d = false) : ∀ q : List UInt8, (∀ x ∈ q, p x = true) → runL p (q ++ r) = q.length
  | [], _ => by
    cases r with
    | nil => rfl
    | cons d r => show runL p (d :: r) = 0; rw [runL_cons, hr d r rfl]; rfl
  | c :: q, h => by
    rw [List.cons_append, runL_cons, h c (by simp), if_pos rfl, runL_all p r hr q fun x hx => h x (by simp [hx])]
    rfl
theorem one_num (n : Int) (h0 : -9223372036854775808 ≤ n) (h1 : n < 9223372036854775808) (r : List UInt8) (hr : ∀ d q, r = d :: q → digC d = false) : ∃ c q, Lib.itoa n ++ r = c :: q ∧ blkC c = false ∧ oneL (c :: q) = (⟨2, ⟨#[]⟩, n, 0⟩, (Lib.itoa n).length) := by
  obtain ⟨c, q, he, hl, hd, hq⟩ := itoa_shape n
  have hb : blkC c = false := by
    rcases hd with hd | hd
    · simp [digC] at hd
      simp [blkC]
      omega
    · simp [blkC]
      omega
  refine ⟨c, q ++ r, by rw [he]; rfl, hb, ?_⟩
  have hrun := runL_all digC r hr q hq
  have hv := valL_itoa n h0 h1
  rw [oneL_cons, if_neg (by rw [hl]; decide), if_pos (by rcases hd with hd | hd; rw [hd]; rfl; rw [decide_eq_true hd, Bool.or_true]), hrun]
  have ht : (c :: (q ++ r)).take (q.length + 1) = Lib.itoa n := by
    rw [he]
    show c :: (q ++ r).take q.length = _
    rw [List.take_left]
  rw [ht, hv, he]
  rfl
/-- The tokens of a quoted text, a blank, and a number. -/
theorem allT_back (s : ByteArray) (n : Int) (hs : s.size ≤ 100) (h0 : -9223372036854775808 ≤ n) (h1 : n < 9223372036854775808) :
    ∃ a e : Int, ∃ k : Int, allT (quoS s ++ ⟨#[32]⟩ ++ ofL (Lib.itoa n)) = ([⟨3, s, 0, 0⟩, ⟨2, ⟨#[]⟩, n, a⟩, ⟨0, ⟨#[]⟩, 0, e⟩], k, 0) := by
  have hL : bsL (quoS s ++ ⟨#[32]⟩ ++ ofL (Lib.itoa n)) = 39 :: (escL (bsL s) ++ 39 :: (32 :: Lib.itoa n)) := by
    simp [bsL, quoS, ByteArray.data_append]
  have hz : (quoS s ++ ⟨#[32]⟩ ++ ofL (Lib.itoa n)).size ≤ 400 := by
    have h2 := len_bsL (quoS s ++ ⟨#[32]⟩ ++ ofL (Lib.itoa n))
    rw [hL] at h2
    generalize (quoS s ++ ⟨#[32]⟩ ++ ofL (Lib.itoa n)).size = M at h2 ⊢
    have h3 := escL_len (bsL s)
    have h4 := Lib.itoa_length_le n h0 (by omega)
    have h5 := len_bsL s
    simp only [List.length_cons, List.length_append] at h2
    omega
  generalize hN : (quoS s ++ ⟨#[32]⟩ ++ ofL (Lib.itoa n)).size = N at hz
  have e1 : allT (quoS s ++ ⟨#[32]⟩ ++ ofL (Lib.itoa n)) = scanL N (39 :: (escL (bsL s) ++ 39 :: (32 :: Lib.itoa n))) 0 [] := by
    unfold allT
    rw [hN, hL, if_neg (by omega)]
  rw [e1, scanL_cons, if_neg (by decide), one_quote _ _ (fun d q h => by injection h with h1 h2; subst h1; decide), if_neg (by simp)]
  have hd : (39 :: (escL (bsL s) ++ 39 :: (32 :: Lib.itoa n))).drop ((escL (bsL s)).length + 2) = 32 :: Lib.itoa n := by
    show (escL (bsL s) ++ 39 :: (32 :: Lib.itoa n)).drop ((escL (bsL s)).length + 1) = _
    rw [List.drop_append]
    simp
  simp only [hd]
  rw [scanL_cons, if_pos (by decide)]
  obtain ⟨c, q, he, hb, ho⟩ := one_num n h0 h1 [] (fun d q h => (nomatch h))
  rw [List.append_nil] at he
  have hlen : (Lib.itoa n).length ≠ 0 := by rw [he]; simp
  rw [he, scanL_cons, if_neg (by rw [hb]; decide), ho, if_neg hlen]
  have hd2 : (c :: q).drop (Lib.itoa n).length = [] := by rw [he]; exact List.drop_length
  simp only [hd2]
  rw [scanL_nil]
  have hsd : (ofL (bsL s) : ByteArray) = s := rfl
  rw [hsd]
  exact ⟨_, _, _, rfl⟩

end Go.Proofs.YthinpbnnpelhhaaGreatDoor.V
