import Derived.Test.YthafcbbkjdbomaaDoorL1
namespace Go.Proofs.YthafcbbkjdbomaaDoor.V
open Go Go.RowKit Go.Proofs.YthafcbbkjdbomaaDoorW.PrintLast
open Go.Proofs
set_option linter.unusedVariables false
set_option linter.unusedSimpArgs false
attribute [local irreducible] awp
set_option maxRecDepth 100000
theorem c25 (e : Int) : PC Tryd.prog 25 [A.int .i64 e] [] (fun r bx => r = A.int .i64 e ∧ bx = []) := by
  refine enter (rs := [.tmp 2]) mx Tryd.func25 Tryd.ntmps25 fun Q0 hQ0 => ?_
  refine sq fun _ _ => ?_
  refine rg (sg ?_)
  refine nx ?_
  refine sq fun _ _ => ?_
  refine rg (sg ?_)
  refine nx ?_
  refine rt ?_
  refine f1 (g := sg ?_)
  exact ax [] ⟨rfl, rfl⟩
theorem c23 (l : List Co) : PC Tryd.prog 23 [xRow l.length 3 (elemsOf (l.map cCo))] [] (fun r bx => (∃ b : Bool, r = A.bool b ∧ (b = true → l.length ≤ 20 ∧ ∀ (i : Nat) (h : i < l.length), l[i].nm.size ≤ 100)) ∧ bx = []) := by
  refine enter (rs := [.tmp 2]) mx Tryd.func23 Tryd.ntmps23 fun Q0 hQ0 => ?_
  refine sq fun _ _ => ?_
  refine rg (sg ?_)
  refine nx ?_
  refine sq fun _ _ => ?_
  refine sq fun _ _ => ?_
  refine rg (sg ?_)
  refine nx ?_
  refine bl ?_
  refine lp [0, 3] [] (fun k σ => ∃ i : Nat, k = 30 - i ∧ i ≤ 30 ∧ (∀ (j : Nat) (h : j < l.length), j < i → l[j].nm.size ≤ 100) ∧ σ = ⟨24, 0, [(0, xRow l.length 3 (elemsOf (l.map cCo))), (3, A.int .i64 i)], []⟩) 30 ?_ ?_
  · exact ⟨0, by omega, by omega, fun j h h2 => absurd h2 (Nat.not_lt_zero _), keq⟩
  · rintro k σ' ⟨i, hk, hi, hall, rfl⟩ Q1 hQ1
    refine sq fun _ _ => ?_
    refine sq fun _ _ => ?_
    refine rg (sg ?_)
    refine nx ?_
    refine cb (fun h => ?_) (fun h => ?_)
    · have hin : i < l.length := by omega
      have hwi : IntKind.i64.wrap ((i : Int) + 1) = ((i + 1 : Nat) : Int) := wrap_succ (by omega)
      have hee := el_at (f := cCo) hin
      refine sk (sg ?_)
      refine nx ?_
      refine sq fun _ _ => ?_
      refine bl ?_
      refine sq fun _ _ => ?_
      refine rg (sg ?_)
      refine and_assoc.2 ?_
      refine And.intro (by first | assumption | omega | rfl | trivial) ?_
      refine And.intro (by first | assumption | omega | rfl | trivial) ?_
      simp (disch := omega) only [el_at]
      refine sg ?_
      refine nx ?_
      refine cb (fun h2 => ?_) (fun h2 => ?_)
      · refine sq fun _ _ => ?_
        refine rg (sg ?_)
        refine nx ?_
        refine rt (sg ?_)
        refine lr (g := sg ?_)
        refine f1 (g := sg ?_)
        exact ax [] ⟨⟨false, rfl, fun h => (nomatch h)⟩, rfl⟩
      · have hall2 : ∀ (j : Nat) (h : j < l.length), j < i + 1 → l[j].nm.size ≤ 100 := by
          intro j hj h3
          by_cases hji : j = i
          · subst hji
            omega
          · exact hall j hj (by omega)
        refine sk (sg ?_)
        refine nx ?_
        refine rg (sg ?_)
        simp (disch := omega) only [wrap_succ]
        refine ln (30 - (i + 1)) [] ?_ ?_
        · omega
        exact ⟨i + 1, by omega, by omega, hall2, keq⟩
    · refine xt (sg ?_)
      refine lx (g := sg ?_)
      refine nx ?_
      refine sq fun _ _ => ?_
      refine rg (sg ?_)
      refine nx ?_
      refine rt ?_
      refine f1 (g := sg ?_)
      refine ax [] ⟨⟨_, rfl, fun h2 => ?_⟩, rfl⟩
      rw [decide_eq_true_eq] at h2
      exact ⟨by omega, fun j hj => hall j hj (by omega)⟩
/-- Where a column is; -1: there is none. -/
def fiC (nm : ByteArray) : List Co → Int
  | [] => -1
  | c :: r => if c.nm = nm then 0 else if fiC nm r < 0 then -1 else fiC nm r + 1
theorem fi_no {nm : ByteArray} : ∀ {l : List Co}, (∀ (j : Nat) (h : j < l.length), l[j].nm ≠ nm) → fiC nm l = -1
  | [], _ => rfl
  | c :: r, h => by
    have h1 : c.nm ≠ nm := h 0 (by simp)
    have h2 := fi_no (l := r) fun j hj => h (j + 1) (by simpa using hj)
    unfold fiC
    rw [if_neg h1, h2]
    rfl
theorem fi_at {nm : ByteArray} : ∀ {l : List Co} {i : Nat} (h : i < l.length), l[i].nm = nm → (∀ (j : Nat) (h : j < l.length), j < i → l[j].nm ≠ nm) → fiC nm l = i
  | c :: r, 0, h, h1, h2 => by
    unfold fiC
    rw [if_pos (show c.nm = nm from h1)]
    rfl
  | c :: r, i + 1, h, h1, h2 => by
    have h3 : c.nm ≠ nm := h2 0 (by simp) (by omega)
    have h4 := fi_at (l := r) (i := i) (by simpa using h) h1 fun j hj hji => h2 (j + 1) (by simpa using hj) (by omega)
    unfold fiC
    rw [if_neg h3, h4, if_neg (by omega)]
    omega
theorem fi_in {nm : ByteArray} : ∀ {l : List Co}, 0 ≤ fiC nm l → ∃ i, ∃ h : i < l.length, fiC nm l = i ∧ l[i].nm = nm
  | [], h => by simp [fiC] at h
  | c :: r, h => by
    unfold fiC at h ⊢
    by_cases h1 : c.nm = nm
    · rw [if_pos h1]
      exact ⟨0, by simp, rfl, h1⟩
    · rw [if_neg h1] at h ⊢
      by_cases h2 : fiC nm r < 0
      · rw [if_pos h2] at h
        omega
      · rw [if_neg h2] at h ⊢
        obtain ⟨i, hi, h3, h4⟩ := fi_in (nm := nm) (l := r) (by omega)
        exact ⟨i + 1, by simpa using hi, by omega, h4⟩
theorem fi_ge {nm : ByteArray} : ∀ {l : List Co}, -1 ≤ fiC nm l ∧ fiC nm l < l.length
  | [] => by simp [fiC]
  | c :: r => by
    have := fi_ge (nm := nm) (l := r)
    unfold fiC
    repeat' split
    all_goals simp
    all_goals omega
theorem c76 (l : List Co) (nm : ByteArray) (hl : l.length ≤ 1000) : PC Tryd.prog 76 [xRow l.length 3 (elemsOf (l.map cCo)), A.str nm] [] (fun r bx => r = A.int .i64 (fiC nm l) ∧ bx = []) := by
  refine enter (rs := [.tmp 4]) mx Tryd.func76 Tryd.ntmps76 fun Q0 hQ0 => ?_
  refine sq fun _ _ => ?_
  refine rg (sg ?_)
  refine nx ?_
  refine sq fun _ _ => ?_
  refine sq fun _ _ => ?_
  refine rg (sg ?_)
  refine nx ?_
  refine bl ?_
  refine lp [0, 1, 5] [] (fun k σ => ∃ i : Nat, k = l.length - i ∧ i ≤ l.length ∧ (∀ (j : Nat) (h : j < l.length), j < i → l[j].nm ≠ nm) ∧ σ = ⟨20, 0, [(0, xRow l.length 3 (elemsOf (l.map cCo))), (1, A.str nm), (5, A.int .i64 i)], []⟩) l.length ?_ ?_
  · exact ⟨0, by omega, by omega, fun j h h2 => absurd h2 (Nat.not_lt_zero _), keq⟩
  · rintro k σ' ⟨i, hk, hi, hall, rfl⟩ Q1 hQ1
    refine sq fun _ _ => ?_
    refine sq fun _ _ => ?_
    refine rg (sg ?_)
    refine nx ?_
    refine cb (fun h => ?_) (fun h => ?_)
    · have hin : i < l.length := by omega
      have hwi : IntKind.i64.wrap ((i : Int) + 1) = ((i + 1 : Nat) : Int) := wrap_succ (by omega)
      have hee := el_at (f := cCo) hin
      refine sk (sg ?_)
      refine nx ?_
      refine sq fun _ _ => ?_
      refine bl ?_
      refine sq fun _ _ => ?_
      refine rg (sg ?_)
      refine and_assoc.2 ?_
      refine And.intro (by first | assumption | omega | rfl | trivial) ?_
      refine And.intro (by first | assumption | omega | rfl | trivial) ?_
      simp (disch := omega) only [el_at]
      refine sg ?_
      refine nx ?_
      refine cb (fun h2 => ?_) (fun h2 => ?_)
      · have hfi := fi_at hin h2 hall
        refine sq fun _ _ => ?_
        refine rg (sg ?_)
        refine nx ?_
        refine rt (sg ?_)
        refine lr (g := sg ?_)
        refine f1 (g := sg ?_)
        exact ax [] ⟨by rw [hfi]; rfl, rfl⟩
      · have hall2 : ∀ (j : Nat) (h : j < l.length), j < i + 1 → l[j].nm ≠ nm := by
          intro j hj h3
          by_cases hji : j = i
          · subst hji
            exact h2
          · exact hall j hj (by omega)
        refine sk (sg ?_)
        refine nx ?_
        refine rg (sg ?_)
        simp (disch := omega) only [wrap_succ]
        refine ln (l.length - (i + 1)) [] ?_ ?_
        · omega
        exact ⟨i + 1, by omega, by omega, hall2, keq⟩
    · have hfi : fiC nm l = -1 := fi_no fun j hj => hall j hj (by omega)
      refine xt (sg ?_)
      refine lx (g := sg ?_)
      refine nx ?_
      refine sq fun _ _ => ?_
      refine rg (sg ?_)
      refine nx ?_
      refine rt ?_
      refine f1 (g := sg ?_)
      exact ax [] ⟨by rw [hfi]; rfl, rfl⟩
theorem c89 (x : Co) (nm : ByteArray) : PC Tryd.prog 89 [aCo x, .one (.ptr 0 0)] [.var [xS nm] 9] (fun r bx => r = A.bool (decide (x.nm = nm)) ∧ bx = [.var [xS nm] 9]) := by
  refine enter (rs := [.tmp 3]) mx Tryd.func89 Tryd.ntmps89 fun Q0 hQ0 => ?_
  refine sq fun _ _ => ?_
  refine rg (sg ?_)
  refine nx ?_
  refine sq fun _ _ => ?_
  refine rg (sg ?_)
  refine nx ?_
  refine rt ?_
  refine f1 (g := sg ?_)
  exact ax [] ⟨rfl, rfl⟩
theorem c88find (l : List Co) (nm : ByteArray) (hl : l.length ≤ 1000) : PC Tryd.prog 88 [xRow l.length 3 (elemsOf (l.map cCo)), .one (.fn 89 [0])] [.var [xS nm] 9] (fun r bx => r = A.int .i64 (fiC nm l) ∧ bx = [.var [xS nm] 9]) := by
  refine enter (rs := [.tmp 4]) mx Tryd.func88 Tryd.ntmps88 fun Q0 hQ0 => ?_
  refine sq fun _ _ => ?_
  refine rg (sg ?_)
  refine nx ?_
  refine sq fun _ _ => ?_
  refine sq fun _ _ => ?_
  refine rg (sg ?_)
  refine nx ?_
  refine bl ?_
  refine lp [0, 1, 7, 8] [] (fun k σ => ∃ i : Nat, k = l.length - i ∧ i ≤ l.length ∧ (∀ (j : Nat) (h : j < l.length), j < i → l[j].nm ≠ nm) ∧ σ = ⟨19, 1, [(0, xRow l.length 3 (elemsOf (List.map cCo l))), (1, A.one (L.fn 89 [0])), (7, A.int .i64 l.length), (8, A.int .i64 i)], [.var [xS nm] 9]⟩) l.length ?_ ?_
  · exact ⟨0, by omega, by omega, fun j h h2 => absurd h2 (Nat.not_lt_zero _), keq⟩
  · rintro k σ' ⟨i, hk, hi, hw, rfl⟩ Q1 hQ1
    refine sq fun _ _ => ?_
    refine rg (sg ?_)
    refine nx ?_
    refine sq fun _ _ => ?_
    refine cb (fun h => ?_) (fun h => ?_)
    · have hin : i < l.length := by omega
      have hwi : IntKind.i64.wrap ((i : Int) + 1) = ((i + 1 : Nat) : Int) := wrap_succ (by omega)
      have he := el_at (f := cCo) hin
      refine sk (sg ?_)
      refine nx ?_
      refine sq fun _ _ => ?_
      refine bl ?_
      refine sq fun _ _ => ?_
      refine rg (sg ?_)
      refine nx ?_
      refine sq fun _ _ => ?_
      refine rg (sg ?_)
      refine and_assoc.2 ?_
      refine And.intro (by first | assumption | omega | rfl | trivial) ?_
      refine And.intro (by first | assumption | omega | rfl | trivial) ?_
      refine cl [0] (sg ?_)
      simp (disch := omega) only [el_at]
      refine sg ?_
      refine (c89 _ _).mono ?_
      rintro r bx ⟨rfl, rfl⟩
      refine sg ?_
      refine nx ?_
      refine cb (fun h2 => ?_) (fun h2 => ?_)
      · have hfi := fi_at hin h2 hw
        refine sq fun _ _ => ?_
        refine rg (sg ?_)
        refine nx ?_
        refine rt (sg ?_)
        refine lr (g := sg ?_)
        refine f1 (g := sg ?_)
        exact ax [] ⟨by rw [hfi]; rfl, rfl⟩
      · have hw2 : ∀ (j : Nat) (h : j < l.length), j < i + 1 → l[j].nm ≠ nm := by
          intro j hj h3
          by_cases hji : j = i
          · subst hji
            exact h2
          · exact hw j hj (by omega)
        refine sk (sg ?_)
        refine nx ?_
        refine rg (sg ?_)
        simp (disch := omega) only [wrap_succ]
        refine ln (l.length - (i + 1)) [] ?_ ?_
        · omega
        exact ⟨i + 1, by omega, by omega, hw2, keq⟩
    · have hfi : fiC nm l = -1 := fi_no fun j hj => hw j hj (by omega)
      refine xt (sg ?_)
      refine lx (g := sg ?_)
      refine nx ?_
      refine sq fun _ _ => ?_
      refine rg (sg ?_)
      refine nx ?_
      refine rt ?_
      refine f1 (g := sg ?_)
      exact ax [] ⟨by rw [hfi]; rfl, rfl⟩
theorem c75 (l : List Co) (nm : ByteArray) (hl : l.length ≤ 1000) : PC Tryd.prog 75 [xRow l.length 3 (elemsOf (l.map cCo)), A.str nm] [] (fun r bx => r = .tup [([xI (if fiC nm l < 0 then 0 else fiC nm l)], false), ([xB (decide (0 ≤ fiC nm l))], false)] ∧ bx = []) := by
  refine enter (rs := [.tmp 4, .tmp 5]) mx Tryd.func75 Tryd.ntmps75 fun Q0 hQ0 => ?_
  refine sq fun _ _ => ?_
  refine rg (sg ?_)
  refine nx ?_
  refine sq fun _ _ => ?_
  refine rg (sg ?_)
  refine cl [0] (sg ?_)
  refine (c88find l nm hl).mono ?_
  rintro r bx ⟨rfl, rfl⟩
  refine sg ?_
  refine nx ?_
  refine sq fun _ _ => ?_
  refine rg (sg ?_)
  refine nx ?_
  refine rt ?_
  refine f2 (g := sg ?_)
  refine ⟨_, _, rfl, rfl, ?_⟩
  exact ax [] ⟨rfl, rfl⟩
theorem c74 (x y : Co) : PC Tryd.prog 74 [aCo x, .one (.ptr 0 0)] [.var [xS y.nm, xI y.ty, xB y.nl] 62] (fun r bx => r = A.bool (decide (x.nm = y.nm)) ∧ bx = [.var [xS y.nm, xI y.ty, xB y.nl] 62]) := by
  refine enter (rs := [.tmp 3]) mx Tryd.func74 Tryd.ntmps74 fun Q0 hQ0 => ?_
  refine sq fun _ _ => ?_
  refine rg (sg ?_)
  refine nx ?_
  refine sq fun _ _ => ?_
  refine rg (sg ?_)
  refine nx ?_
  refine rt ?_
  refine f1 (g := sg ?_)
  exact ax [] ⟨rfl, rfl⟩
theorem c88check (l : List Co) (n : Nat) (y : Co) (hl : l.length ≤ 1000) (hn : n ≤ l.length) : PC Tryd.prog 88 [xRow n 3 (elemsOf (l.map cCo)), .one (.fn 74 [0])] [.var [xS y.nm, xI y.ty, xB y.nl] 62] (fun r bx => (∃ k : Int, r = A.int .i64 k ∧ (0 ≤ k ↔ ∃ (j : Nat) (hj : j < l.length), j < n ∧ l[j].nm = y.nm)) ∧ bx = [.var [xS y.nm, xI y.ty, xB y.nl] 62]) := by
  refine enter (rs := [.tmp 4]) mx Tryd.func88 Tryd.ntmps88 fun Q0 hQ0 => ?_
  refine sq fun _ _ => ?_
  refine rg (sg ?_)
  refine nx ?_
  refine sq fun _ _ => ?_
  refine sq fun _ _ => ?_
  refine rg (sg ?_)
  refine nx ?_
  refine bl ?_
  refine lp [0, 1, 7, 8] [] (fun k σ => ∃ i : Nat, k = n - i ∧ i ≤ n ∧ (∀ (j : Nat) (h : j < l.length), j < i → l[j].nm ≠ y.nm) ∧ σ = ⟨19, 1, [(0, xRow n 3 (elemsOf (List.map cCo l))), (1, A.one (L.fn 74 [0])), (7, A.int .i64 n), (8, A.int .i64 i)], [.var [xS y.nm, xI y.ty, xB y.nl] 62]⟩) n ?_ ?_
  · exact ⟨0, by omega, by omega, fun j h h2 => absurd h2 (Nat.not_lt_zero _), keq⟩
  · rintro k σ' ⟨i, hk, hi, hw, rfl⟩ Q1 hQ1
    refine sq fun _ _ => ?_
    refine rg (sg ?_)
    refine nx ?_
    refine sq fun _ _ => ?_
    refine cb (fun h => ?_) (fun h => ?_)
    · have hin : i < l.length := by omega
      have hwi : IntKind.i64.wrap ((i : Int) + 1) = ((i + 1 : Nat) : Int) := wrap_succ (by omega)
      have he := el_at (f := cCo) hin
      refine sk (sg ?_)
      refine nx ?_
      refine sq fun _ _ => ?_
      refine bl ?_
      refine sq fun _ _ => ?_
      refine rg (sg ?_)
      refine nx ?_
      refine sq fun _ _ => ?_
      refine rg (sg ?_)
      refine and_assoc.2 ?_
      refine And.intro (by first | assumption | omega | rfl | trivial) ?_
      refine And.intro (by first | assumption | omega | rfl | trivial) ?_
      refine cl [0] (sg ?_)
      simp (disch := omega) only [el_at]
      refine sg ?_
      refine (c74 _ _).mono ?_
      rintro r bx ⟨rfl, rfl⟩
      refine sg ?_
      refine nx ?_
      refine cb (fun h2 => ?_) (fun h2 => ?_)
      · refine sq fun _ _ => ?_
        refine rg (sg ?_)
        refine nx ?_
        refine rt (sg ?_)
        refine lr (g := sg ?_)
        refine f1 (g := sg ?_)
        exact ax [] ⟨⟨i, rfl, fun _ => ⟨i, hin, by omega, h2⟩, fun _ => by omega⟩, rfl⟩
      · have hw2 : ∀ (j : Nat) (h : j < l.length), j < i + 1 → l[j].nm ≠ y.nm := by
          intro j hj h3
          by_cases hji : j = i
          · subst hji
            exact h2
          · exact hw j hj (by omega)
        refine sk (sg ?_)
        refine nx ?_
        refine rg (sg ?_)
        simp (disch := omega) only [wrap_succ]
        refine ln (n - (i + 1)) [] ?_ ?_
        · omega
        exact ⟨i + 1, by omega, by omega, hw2, keq⟩
    · refine xt (sg ?_)
      refine lx (g := sg ?_)
      refine nx ?_
      refine sq fun _ _ => ?_
      refine rg (sg ?_)
      refine nx ?_
      refine rt ?_
      refine f1 (g := sg ?_)
      exact ax [] ⟨⟨-1, rfl, fun h => by omega, fun ⟨j, hj, h3, h4⟩ => absurd h4 (hw j hj (by omega))⟩, rfl⟩
theorem c73 (l : List Co) (n : Nat) (y : Co) (hl : l.length ≤ 1000) (hn : n ≤ l.length) : PC Tryd.prog 73 [xRow n 3 (elemsOf (l.map cCo)), .one (.fn 74 [0])] [.var [xS y.nm, xI y.ty, xB y.nl] 62] (fun r bx => (∃ b : Bool, r = A.bool b ∧ (b = true ↔ ∃ (j : Nat) (hj : j < l.length), j < n ∧ l[j].nm = y.nm)) ∧ bx = [.var [xS y.nm, xI y.ty, xB y.nl] 62]) := by
  refine enter (rs := [.tmp 4]) mx Tryd.func73 Tryd.ntmps73 fun Q0 hQ0 => ?_
  refine sq fun _ _ => ?_
  refine rg (sg ?_)
  refine nx ?_
  refine sq fun _ _ => ?_
  refine rg (sg ?_)
  refine cl [0] (sg ?_)
  refine (c88check l n y hl hn).mono ?_
  rintro r bx ⟨⟨k, rfl, hk⟩, rfl⟩
  refine sg ?_
  refine nx ?_
  refine rt ?_
  refine f1 (g := sg ?_)
  exact ax [] ⟨⟨decide (0 ≤ k), rfl, by rw [decide_eq_true_eq]; exact hk⟩, rfl⟩

end Go.Proofs.YthafcbbkjdbomaaDoor.V
