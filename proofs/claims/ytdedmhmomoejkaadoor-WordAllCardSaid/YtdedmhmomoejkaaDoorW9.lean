import Derived.Test.YtdedmhmomoejkaaDoorW8
namespace Go.Proofs.YtdedmhmomoejkaaDoor.V
open Go Go.RowKit Go.Proofs.YtdedmhmomoejkaaDoorW.PrintLast
open Go.Proofs
set_option linter.unusedVariables false
set_option linter.unusedSimpArgs false
attribute [local irreducible] awp
set_option maxRecDepth 100000
def twoT : List ByteArray := [⟨#[60, 62]⟩, ⟨#[60, 61]⟩, ⟨#[62, 61]⟩]
theorem mk2 (c d : UInt8) (i : Nat) (hi : i < twoT.length) (h : ofL [c, d] = twoT[i]) : mark2 c d = true := by
  have h3 : i < 3 := hi
  rcases (by omega : i = 0 ∨ i = 1 ∨ i = 2) with rfl | rfl | rfl
  · have h := congrArg bsL h
    injection h with h1 h2
    injection h2 with h2
    subst h1 h2; rfl
  · have h := congrArg bsL h
    injection h with h1 h2
    injection h2 with h2
    subst h1 h2; rfl
  · have h := congrArg bsL h
    injection h with h1 h2
    injection h2 with h2
    subst h1 h2; rfl
theorem mk2n (c d : UInt8) (h : ∀ (j : Nat) (hj : j < twoT.length), ofL [c, d] ≠ twoT[j]) : mark2 c d = false := by
  cases hm : mark2 c d with
  | false => rfl
  | true =>
    exfalso
    simp only [mark2, Bool.or_eq_true, Bool.and_eq_true, decide_eq_true_eq] at hm
    have e : ∀ a b : UInt8, c.toNat = a.toNat → d.toNat = b.toNat → ofL [c, d] = ofL [a, b] := fun a b h1 h2 => by rw [UInt8.toNat_inj.1 h1, UInt8.toNat_inj.1 h2]
    rcases hm with ⟨h1, h2 | h2⟩ | ⟨h1, h2⟩
    · exact h 0 (by decide) (e 60 62 h1 h2)
    · exact h 1 (by decide) (e 60 61 h1 h2)
    · exact h 2 (by decide) (e 62 61 h1 h2)
def oneT : ByteArray := ⟨#[44, 40, 41, 42, 61, 60, 62]⟩
theorem mk1 (c : UInt8) (i : Nat) (hi : i < 7) (h : (c.toNat : Int) = ((oneT.data.getD i 0).toNat : Int)) : mark1 c = true := by
  rcases (by omega : i = 0 ∨ i = 1 ∨ i = 2 ∨ i = 3 ∨ i = 4 ∨ i = 5 ∨ i = 6) with rfl | rfl | rfl | rfl | rfl | rfl | rfl <;> (simp [oneT] at h; simp [mark1]; omega)
theorem mk1n (c : UInt8) (h : ∀ j : Nat, j < 7 → (c.toNat : Int) ≠ ((oneT.data.getD j 0).toNat : Int)) : mark1 c = false := by
  have h0 := h 0 (by decide); have h1 := h 1 (by decide); have h2 := h 2 (by decide); have h3 := h 3 (by decide); have h4 := h 4 (by decide); have h5 := h 5 (by decide); have h6 := h 6 (by decide)
  simp [oneT] at h0 h1 h2 h3 h4 h5 h6
  simp [mark1]
  omega
theorem markL_no {c : UInt8} {r : List UInt8} (h : ∀ d q, r = d :: q → mark2 c d = false) : markL (c :: r) = if mark1 c then 1 else 0 := by
  cases r with
  | nil => rfl
  | cons d q => simp [markL, h d q rfl]
set_option maxHeartbeats 4000000 in
theorem c118 (s : ByteArray) (c : UInt8) (r0 : List UInt8) (hl : bsL s = c :: r0) (hs : s.size ≤ 400) : PC Tryd.prog 118 [A.str s] [] (fun r bx => r = A.int .i64 (markL (c :: r0)) ∧ bx = []) := by
  have hsz := len_bsL s
  have hc0 : (bsL s)[0]? = some c := by rw [hl]; rfl
  obtain ⟨hp0, _, hg0⟩ := at_list hc0
  have hch : s.data.getD 0 0 = c := (chr_get s 0 hp0).trans hg0
  have h2t : ∀ d q, r0 = d :: q → s.extract 0 2 = ofL [c, d] ∧ 2 ≤ s.size := fun d q e => by
    have h2 : 2 ≤ s.size := by rw [← hsz, hl, e]; simp
    exact ⟨by rw [cut_ofL s 0 2 h2, hl, e]; rfl, h2⟩
  have hml : twoT.length = 3 := rfl
  refine enter (rs := [.tmp 2]) mx Tryd.func118 Tryd.ntmps118 fun Q0 hQ0 => ?_
  refine sq fun _ _ => ?_
  refine rg (sg ?_)
  refine nx ?_
  refine sq fun _ _ => ?_
  refine rg (sg ?_)
  refine nx ?_
  refine sq fun _ _ => ?_
  refine sq fun _ _ => ?_
  refine rg (sg ?_)
  refine nx ?_
  refine bl ?_
  refine lp [0, 3, 4] [0] (fun k σ => ∃ i : Nat, k = 3 - i ∧ i ≤ 3 ∧ (∀ d q, r0 = d :: q → ∀ (j : Nat) (hj : j < twoT.length), j < i → ofL [c, d] ≠ twoT[j]) ∧ σ = ⟨34, 0, [(0, A.str s), (3, xOwn 0 1 0 3), (4, A.int .i64 i)], [.arr (twoT.map fun x => lc (cSx x)) 1 9]⟩) 3 ?_ ?_
  · exact ⟨0, by omega, by omega, fun d q _ j hj h => absurd h (Nat.not_lt_zero _), keq⟩
  · rintro k σ' ⟨i, hk, hi, hno, rfl⟩ Q1 hQ1
    refine sq fun _ _ => ?_
    refine sq fun _ _ => ?_
    refine rg (sg ?_)
    refine nx ?_
    refine cb (fun h => ?_) (fun h => ?_)
    · have him : i < twoT.length := by omega
      refine sk (sg ?_)
      refine nx ?_
      refine sq fun _ _ => ?_
      refine bl ?_
      refine sq fun _ _ => ?_
      refine dr [.take 0, .take 1, .take 2, .take 3, .take 4, .take 5, .take 6, .take 7, .take 8, .take 9, .take 10, .take 11] [] (sg ?_)
      refine And.intro (by first | assumption | omega | rfl | trivial) ?_
      refine And.intro (by first | assumption | omega | rfl | trivial) ?_
      simp (disch := omega) only [el_at, ml_Sx]
      refine sg ?_
      refine nx ?_
      refine cb (fun h2 => ?_) (fun h2 => ?_)
      · obtain ⟨h2a, h2b⟩ := h2
        obtain ⟨d, q, hr⟩ : ∃ d q, r0 = d :: q := by
          cases r0 with
          | nil => rw [hl] at hsz; simp at hsz; omega
          | cons d q => exact ⟨d, q, rfl⟩
        have hm : mark2 c d = true := mk2 c d i him (by rw [← (h2t d q hr).1]; exact h2b)
        refine sq fun _ _ => ?_
        refine rg (sg ?_)
        refine nx ?_
        refine rt (sg ?_)
        refine lr (g := sg ?_)
        refine f1 (g := sg ?_)
        refine ax [] ⟨?_, rfl⟩
        rw [hr]
        simp [markL, hm]
        rfl
      · refine sk (sg ?_)
        refine nx ?_
        refine rg (sg ?_)
        simp (disch := omega) only [wrap_succ]
        have hn2 : ∀ d q, r0 = d :: q → ∀ (j : Nat) (hj : j < twoT.length), j < i + 1 → ofL [c, d] ≠ twoT[j] := fun d q hr j hj h4 => by
          by_cases e : j = i
          · subst e
            exact fun e2 => h2 ⟨by have := (h2t d q hr).2; omega, by rw [(h2t d q hr).1]; exact e2⟩
          · exact hno d q hr j hj (by omega)
        refine ln (3 - (i + 1)) [0] ?_ ?_
        · omega
        exact ⟨i + 1, by omega, by omega, hn2, keq⟩
    · have hno2 : ∀ d q, r0 = d :: q → mark2 c d = false := fun d q hr => mk2n c d fun j hj => hno d q hr j hj (by omega)
      have hmk := markL_no hno2
      refine xt (sg ?_)
      refine lx (g := sg ?_)
      refine nx ?_
      refine sq fun _ _ => ?_
      refine rg (sg ?_)
      refine nx ?_
      refine sq fun _ _ => ?_
      refine sq fun _ _ => ?_
      refine rg (sg ?_)
      refine nx ?_
      refine bl ?_
      refine lp [0, 5, 6] [] (fun k σ => ∃ j : Nat, k = 7 - j ∧ j ≤ 7 ∧ (∀ m : Nat, m < j → (c.toNat : Int) ≠ ((oneT.data.getD m 0).toNat : Int)) ∧ σ = ⟨34, 0, [(0, A.str s), (5, A.str oneT), (6, A.int .i64 j)], []⟩) 7 ?_ ?_
      · exact ⟨0, by omega, by omega, (fun m h => absurd h (Nat.not_lt_zero _)), keq⟩
      · rintro k2 σ2 ⟨j, hk2, hj, hn1, rfl⟩ Q2 hQ2
        have hos : oneT.size = 7 := rfl
        refine sq fun _ _ => ?_
        refine sq fun _ _ => ?_
        refine rg (sg ?_)
        refine nx ?_
        refine cb (fun h3 => ?_) (fun h3 => ?_)
        · refine sk (sg ?_)
          refine nx ?_
          refine sq fun _ _ => ?_
          refine bl ?_
          refine sq fun _ _ => ?_
          refine dr [.take 0, .take 1, .take 2, .take 3, .take 4, .take 5] [] (sg ?_)
          refine And.intro (by first | assumption | omega | rfl | trivial) ?_
          refine and_assoc.2 ?_
          refine And.intro (by first | assumption | omega | rfl | trivial) ?_
          refine And.intro (by first | assumption | omega | rfl | trivial) ?_
          refine nx ?_
          simp only [hch]
          refine cb (fun h4 => ?_) (fun h4 => ?_)
          · refine sq fun _ _ => ?_
            refine rg (sg ?_)
            refine nx ?_
            refine rt (sg ?_)
            refine lr (g := sg ?_)
            refine f1 (g := sg ?_)
            refine ax [] ⟨?_, rfl⟩
            rw [hmk, mk1 c j (by omega) h4]
            rfl
          · refine sk (sg ?_)
            refine nx ?_
            refine rg (sg ?_)
            simp (disch := omega) only [wrap_succ]
            have hn2 : ∀ m : Nat, m < j + 1 → (c.toNat : Int) ≠ ((oneT.data.getD m 0).toNat : Int) := fun m hm => by
              by_cases e : m = j
              · subst e; exact h4
              · exact hn1 m (by omega)
            refine ln (7 - (j + 1)) [] ?_ ?_
            · omega
            exact ⟨j + 1, by omega, by omega, hn2, keq⟩
        · refine xt (sg ?_)
          refine lx (g := sg ?_)
          refine nx ?_
          refine sq fun _ _ => ?_
          refine rg (sg ?_)
          refine nx ?_
          refine rt ?_
          refine f1 (g := sg ?_)
          refine ax [] ⟨?_, rfl⟩
          rw [hmk, mk1n c fun m hm => hn1 m (by omega)]
          rfl

end Go.Proofs.YtdedmhmomoejkaaDoor.V
