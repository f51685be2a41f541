import Derived.Test.YthafcbbkjdbomaaDoorW14
namespace Go.Proofs.YthafcbbkjdbomaaDoor.V
open Go Go.RowKit Go.Proofs.YthafcbbkjdbomaaDoorW.PrintLast
open Go.Proofs
set_option linter.unusedVariables false
set_option linter.unusedSimpArgs false
attribute [local irreducible] awp
set_option maxRecDepth 100000
theorem scanL_len (n : Nat) : ∀ (N : Nat) (l : List UInt8) (i : Nat) (acc : List Tk), l.length ≤ N → (scanL n l i acc).1.length ≤ acc.length + l.length + 1 := by
  intro N
  induction N with
  | zero =>
    intro l i acc h
    obtain rfl : l = [] := List.eq_nil_of_length_eq_zero (by omega)
    rw [scanL_nil]
    simp
  | succ N ih =>
    intro l i acc h
    cases l with
    | nil => rw [scanL_nil]; simp
    | cons c r =>
      rw [scanL_cons]
      have hr : r.length ≤ N := by simpa using h
      split
      · have := ih r (i + 1) acc hr
        simp
        omega
      · split
        · simp
        · rename_i h0
          have := ih ((c :: r).drop (oneL (c :: r)).2) (i + (oneL (c :: r)).2) (acc ++ [⟨(oneL (c :: r)).1.kind, (oneL (c :: r)).1.s, (oneL (c :: r)).1.n, i⟩]) (by rw [List.length_drop]; simp; omega)
          rw [List.length_append, List.length_drop] at this
          simp at this ⊢
          omega
theorem allT_len (s : ByteArray) : (allT s).1.length ≤ 401 := by
  unfold allT
  split
  · simp
  · have := scanL_len s.size s.size (bsL s) 0 [] (by rw [len_bsL]; exact Nat.le_refl _)
    rw [len_bsL] at this
    simp at this
    omega
def liveS : ByteArray := ⟨#[97, 60, 61, 45, 53]⟩
theorem dec5 : Lib.itoa (-5) = [45, 53] := by
  rw [show (-5 : Int) = -((5 : Nat) : Int) from rfl, Lib.itoa_neg 5 (by omega), Lib.decDigits, dif_pos (by omega)]
  rfl
theorem val5 : valL [45, 53] = some (-5) := by
  have h := valL_itoa (-5) (by omega) (by omega)
  rw [dec5] at h
  exact h
theorem liveT : allT liveS = ([⟨1, ⟨#[97]⟩, 0, 0⟩, ⟨4, ⟨#[60, 61]⟩, 0, 1⟩, ⟨2, ⟨#[]⟩, -5, 3⟩, ⟨0, ⟨#[]⟩, 0, 5⟩], 5, 0) := by
  have h1 : oneL [97, 60, 61, 45, 53] = (⟨1, ofL [97], 0, 0⟩, 1) := by kernel_rfl
  have h2 : oneL [60, 61, 45, 53] = (⟨4, ofL [60, 61], 0, 0⟩, 2) := by kernel_rfl
  have h3 : oneL [45, 53] = (⟨2, ⟨#[]⟩, -5, 0⟩, 2) := by
    rw [oneL_cons, if_neg (by decide), if_pos (by decide), show runL digC [53] = 1 from by kernel_rfl]
    show (match valL [45, 53] with | some v => _ | none => _) = _
    rw [val5]
  have b1 : blkC 97 = false := by decide
  have b2 : blkC 60 = false := by decide
  have b3 : blkC 45 = false := by decide
  rw [show allT liveS = scanL 5 [97, 60, 61, 45, 53] 0 [] from if_neg (by decide)]
  rw [scanL_cons, h1, b1]
  simp only [Bool.false_eq_true, if_false, List.drop_succ_cons, List.drop_zero, reduceIte, Nat.reduceEqDiff]
  rw [scanL_cons, h2, b2]
  simp only [Bool.false_eq_true, if_false, List.drop_succ_cons, List.drop_zero, reduceIte, Nat.reduceEqDiff]
  rw [scanL_cons, h3, b3]
  simp only [Bool.false_eq_true, if_false, List.drop_succ_cons, List.drop_zero, reduceIte, Nat.reduceEqDiff]
  rw [scanL_nil]
  rfl
def liveR : Nat → Nat → C := elemsOf ([⟨1, ⟨#[97]⟩, 0, 0⟩, ⟨4, ⟨#[60, 61]⟩, 0, 1⟩, ⟨2, ⟨#[]⟩, -5, 3⟩, ⟨0, ⟨#[]⟩, 0, 5⟩].map cTk)
theorem liveR1 : liveR 1 1 = .v (.string ⟨#[60, 61]⟩) := rfl
theorem liveR2 : liveR 2 2 = .v (.int .i64 (-5)) := rfl
theorem liveR3 : liveR 3 3 = .v (.int .i64 5) := rfl
theorem liveR_eq : rT [⟨1, ⟨#[97]⟩, 0, 0⟩, ⟨4, ⟨#[60, 61]⟩, 0, 1⟩, ⟨2, ⟨#[]⟩, -5, 3⟩, ⟨0, ⟨#[]⟩, 0, 5⟩] = .sl 4 4 liveR := by
  unfold rT
  rw [if_neg (by simp)]
  rfl
attribute [go_sem] liveR1 liveR2 liveR3
set_option maxHeartbeats 8000000 in
theorem c8 : PC Tryd.prog 8 [] [] (fun r bx => r = .bool true ∧ bx = []) := by
  have hlive : allT ⟨#[97, 60, 61, 45, 53]⟩ = _ := liveT
  refine enter (rs := [.tmp 0]) mx Tryd.func8 Tryd.ntmps8 fun Q0 hQ0 => ?_
  refine sq fun _ _ => ?_
  refine rg (sg ?_)
  refine nx ?_
  refine sq fun _ _ => ?_
  refine rg (sg ?_)
  refine cl [] (sg ?_)
  refine (c9 _).mono ?_
  rintro r bx ⟨rfl, rfl⟩
  refine sg ?_
  refine nx ?_
  refine sq fun _ _ => ?_
  rw [hlive]
  simp only [liveR_eq]
  refine rg (sg ?_)
  refine cl [] (sg ?_)
  refine (c10 _).mono ?_
  rintro r bx ⟨rfl, rfl⟩
  refine sg ?_
  refine nx ?_
  refine rt ?_
  refine f1 (g := sg ?_)
  exact ax [] ⟨rfl, rfl⟩
end Go.Proofs.YthafcbbkjdbomaaDoor.V
