import Derived.Test.YthafcbbkjdbomaaDoorW1
namespace Go.Proofs.YthafcbbkjdbomaaDoor.V
open Go Go.RowKit Go.Proofs.YthafcbbkjdbomaaDoorW.PrintLast
open Go.Proofs
set_option linter.unusedVariables false
set_option linter.unusedSimpArgs false
attribute [local irreducible] awp
set_option maxRecDepth 100000
def isLt (c : Int) : Bool := decide (97 ≤ c) && decide (c ≤ 122)
def isDg (c : Int) : Bool := decide (48 ≤ c) && decide (c ≤ 57)
theorem c54 (c : Int) : PC Tryd.prog 54 [.int .i32 c] [] (fun r bx => r = .bool (isLt c) ∧ bx = []) := by
  refine enter (rs := [.tmp 2]) mx Tryd.func54 Tryd.ntmps54 fun Q0 hQ0 => ?_
  refine sq fun _ _ => ?_
  refine rg (sg ?_)
  refine nx ?_
  refine sq fun _ _ => ?_
  refine rg (sg ?_)
  refine nx ?_
  refine rt ?_
  refine f1 (g := sg ?_)
  exact ax [] ⟨rfl, rfl⟩
theorem c57 (c : Int) : PC Tryd.prog 57 [.int .i32 c] [] (fun r bx => r = .bool (isDg c) ∧ bx = []) := by
  refine enter (rs := [.tmp 2]) mx Tryd.func57 Tryd.ntmps57 fun Q0 hQ0 => ?_
  refine sq fun _ _ => ?_
  refine rg (sg ?_)
  refine nx ?_
  refine sq fun _ _ => ?_
  refine rg (sg ?_)
  refine nx ?_
  refine rt ?_
  refine f1 (g := sg ?_)
  exact ax [] ⟨rfl, rfl⟩
theorem c32 (c : Int) : PC Tryd.prog 32 [.int .i32 c] [] (fun r bx => r = .bool (decide (c = 32) || decide (c = 9) || decide (c = 10)) ∧ bx = []) := by
  refine enter (rs := [.tmp 2]) mx Tryd.func32 Tryd.ntmps32 fun Q0 hQ0 => ?_
  refine sq fun _ _ => ?_
  refine rg (sg ?_)
  refine nx ?_
  refine sq fun _ _ => ?_
  refine rg (sg ?_)
  refine nx ?_
  refine rt ?_
  refine f1 (g := sg ?_)
  exact ax [] ⟨rfl, rfl⟩
theorem c56 (c : Int) : PC Tryd.prog 56 [.int .i32 c] [] (fun r bx => r = .bool (isLt c || isDg c || decide (c = 95)) ∧ bx = []) := by
  refine enter (rs := [.tmp 2]) mx Tryd.func56 Tryd.ntmps56 fun Q0 hQ0 => ?_
  refine sq fun _ _ => ?_
  refine rg (sg ?_)
  refine nx ?_
  refine sq fun _ _ => ?_
  refine rg (sg ?_)
  refine cl [] (sg ?_)
  refine (c54 _).mono ?_
  rintro r bx ⟨rfl, rfl⟩
  refine sg ?_
  simp only [undef]
  generalize ha : isLt c = a
  cases a
  · refine sg ?_
    refine cl [] (sg ?_)
    refine (c57 _).mono ?_
    rintro r bx ⟨rfl, rfl⟩
    refine sg ?_
    refine nx ?_
    refine rt ?_
    refine f1 (g := sg ?_)
    generalize hb : isDg c = b
    cases b
    · refine sg ?_
      skip
      exact ax [] ⟨by first | rfl | (rw [ha]; rfl), rfl⟩
    · refine sg ?_
      skip
      exact ax [] ⟨by first | rfl | (rw [ha]; rfl), rfl⟩
  · refine sg ?_
    refine nx ?_
    refine rt ?_
    refine f1 (g := sg ?_)
    exact ax [] ⟨by first | rfl | (rw [ha]; rfl), rfl⟩
theorem drop_cons {α : Type} {l : List α} {p : Nat} {c : α} (h : l[p]? = some c) : l.drop p = c :: l.drop (p + 1) := by
  obtain ⟨hp, e⟩ := List.getElem?_eq_some_iff.1 h
  rw [List.drop_eq_getElem_cons hp, e]
theorem c55 (g : FuncId) (p : Int → Bool) (hg : ∀ c : Int, PC Tryd.prog g [.int .i32 c] [] (fun r bx => r = .bool (p c) ∧ bx = [])) (q : UInt8 → Bool) (hq : ∀ c : UInt8, c.toNat < 128 → p c.toNat = q c) (hp : ∀ c : Int, 128 ≤ c → p c = false) (hql : ∀ c, q c = true → c.toNat < 128) (s : ByteArray) (hs : s.size ≤ 1000) : PC Tryd.prog 55 [A.str s, .one (.fn g [])] [] (fun r bx => r = A.int .i64 (runL q (bsL s)) ∧ bx = []) := by
  refine enter (rs := [.tmp 4]) mx Tryd.func55 Tryd.ntmps55 fun Q0 hQ0 => ?_
  refine sq fun _ _ => ?_
  refine rg (sg ?_)
  refine nx ?_
  refine sq fun _ _ => ?_
  refine sq fun _ _ => ?_
  refine rg (sg ?_)
  refine nx ?_
  refine bl ?_
  refine lp [0, 1, 8] [0] (fun k σ => ∃ j : Nat, k = s.size - j ∧ j ≤ s.size ∧ runL q (bsL s) = j + runL q ((bsL s).drop j) ∧ σ = ⟨20, 0, [(0, A.str s), (1, .one (.fn g [])), (8, xPtr 0 0)], [.iter s j]⟩) s.size ?_ ?_
  · exact ⟨0, by omega, by omega, by simp, keq⟩
  · rintro k σ' ⟨j, hk, hj, hr, rfl⟩ Q1 hQ1
    refine sq fun _ _ => ?_
    refine rg (sg ?_)
    refine ⟨fun hlt => ?_, fun hge => ?_⟩
    · have ha := at_list' hlt
      have hd := drop_cons ha
      generalize s.get! j = c at ha hd
      rw [hd] at hr
      refine nx ?_
      refine sq fun _ _ => ?_
      refine ct (hx := ?_)
      refine sk (sg ?_)
      refine nx ?_
      refine bl ?_
      refine sq fun _ _ => ?_
      refine rg (sg ?_)
      refine nx ?_
      refine sq fun _ _ => ?_
      refine rg (sg ?_)
      refine cl [] (sg ?_)
      refine (hg _).mono ?_
      rintro r bx ⟨rfl, rfl⟩
      refine sg ?_
      refine nx ?_
      have key : p ((Utf8.decode s j).1 : Int) = q c ∧ (q c = true → (Utf8.decode s j).2 = 1) := by
        by_cases hc : c.toNat < 128
        · rw [dec_low ha hc]
          exact ⟨hq c hc, fun _ => rfl⟩
        · have h1 := dec_high ha (by omega)
          have h2 : ¬ q c = true := fun h => hc (hql c h)
          exact ⟨(hp _ (by omega)).trans (Bool.eq_false_iff.2 h2).symm, fun h => absurd h h2⟩
      refine cb (fun h => ?_) (fun h => ?_)
      · rw [key.1] at h
        refine sq fun _ _ => ?_
        refine rg (sg ?_)
        refine nx ?_
        refine rt (sg ?_)
        refine lr (g := sg ?_)
        refine f1 (g := sg ?_)
        refine ax [] ⟨?_, rfl⟩
        rw [hr]
        simp [runL, h]
        rfl
      · rw [key.1] at h
        have h1 : q c = true := by simpa using h
        have h2 := key.2 h1
        rw [h2]
        refine sk (sg ?_)
        refine ln (s.size - (j + 1)) [0] ?_ ?_
        · omega
        exact ⟨j + 1, rfl, by omega, by rw [hr]; simp only [runL, h1, if_true]; omega, keq⟩
    · refine nx ?_
      refine sq fun _ _ => ?_
      refine cf (hy := ?_)
      refine xt (sg ?_)
      refine lx (g := sg ?_)
      refine nx ?_
      refine sq fun _ _ => ?_
      refine rg (sg ?_)
      refine nx ?_
      refine rt ?_
      refine f1 (g := sg ?_)
      refine ax [] ⟨?_, rfl⟩
      have e : (bsL s).drop j = [] := List.drop_of_length_le (by simp; omega)
      rw [e] at hr
      have e2 : j = s.size := by omega
      rw [hr, e2]
      rfl

end Go.Proofs.YthafcbbkjdbomaaDoor.V
