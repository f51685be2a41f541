import Derived.Test.YtdedmhmomoejkaaDoorG2
namespace Go.Proofs.YtdedmhmomoejkaaDoor.V
open Go Go.RowKit Go.Proofs.YtdedmhmomoejkaaDoorW.PrintLast
open Go.Proofs
set_option linter.unusedVariables false
set_option linter.unusedSimpArgs false
attribute [local irreducible] awp
--IMP G2
set_option maxRecDepth 100000
theorem drw_rng (k a : Int) (h1 : 0 < k) (h2 : k < 1000) : 0 ≤ drw k a ∧ drw k a < k := by
  have hk : IntKind.u64.wrap k = k := by rw [IntKind.wrap_u64]; omega
  have hn : 0 ≤ nxt a := by unfold nxt; rw [IntKind.wrap_u64]; omega
  have h3 : 0 ≤ (nxt a).fdiv (2 ^ min (Int.toNat 33) IntKind.u64.bits) := Int.fdiv_nonneg hn (Int.le_of_lt (Int.pow_pos (by omega)))
  unfold drw
  rw [hk]
  generalize (nxt a).fdiv (2 ^ min (Int.toNat 33) IntKind.u64.bits) = x at h3 ⊢
  have h4 := Int.tmod_nonneg k h3
  have h5 := Int.tmod_lt_of_pos x h1
  rw [IntKind.wrap_i64]
  omega
theorem c155 (s : ByteArray) (n : Int) (h0 : 0 ≤ n) (h1 : n ≤ 100) (hs : s.size ≤ 100) : PC Tryd.prog 155 [.str s, .int .i64 n] [] (fun r bx => r = .str (repS s n) ∧ bx = []) := by
  obtain ⟨m, rfl⟩ : ∃ m : Nat, n = (m : Int) := ⟨n.toNat, by omega⟩
  have h2 : s.size * m ≤ 100 * 100 := Nat.mul_le_mul hs (by omega)
  exact PC_val [.string s, .int .i64 (m : Int)] (.string (repS s m)) Tryd.func155 (fun w => (Tryd.strings_Repeat s m w (by omega) (by omega)).mono fun e w' h => h)
theorem c171 (n : Int) (h0 : 0 ≤ n) (h1 : n < 10) : PC Tryd.prog 171 [.int .i64 n] [] (fun r bx => r = .str (dgt n) ∧ bx = []) := by
  refine enter (rs := [.tmp 2]) mx Tryd.func171 Tryd.ntmps171 fun Q0 hQ0 => ?_
  repeat first | refine nx ?_ | refine sq fun _ _ => ?_ | refine rg (sg ?_) | refine bl ?_ | refine sk (sg ?_) | refine xt (sg ?_) | refine lx (g := sg ?_) | refine ct (hx := ?_) | refine cf (hy := ?_) | refine lr (g := sg ?_) | refine rt (sg ?_) | refine rt ?_ | refine sk ?_ | refine xt ?_ | refine f1 (g := sg ?_) | refine f2 (g := sg ?_) | refine f3 (g := sg ?_) | refine And.intro (by first | assumption | omega) ?_
  refine cb (fun h => ?_) (fun h => absurd h1 h)
  have hw : IntKind.i64.wrap (n + 1) = n + 1 := by rw [IntKind.wrap_i64]; omega
  repeat first | refine nx ?_ | refine sq fun _ _ => ?_ | refine rg (sg ?_) | refine bl ?_ | refine sk (sg ?_) | refine xt (sg ?_) | refine lx (g := sg ?_) | refine ct (hx := ?_) | refine cf (hy := ?_) | refine lr (g := sg ?_) | refine rt (sg ?_) | refine rt ?_ | refine sk ?_ | refine xt ?_ | refine f1 (g := sg ?_) | refine f2 (g := sg ?_) | refine f3 (g := sg ?_) | refine And.intro (by first | assumption | omega) ?_
  refine ⟨⟨h0, by omega, by rw [hw]; simp only [List.size_toArray, List.length_cons, List.length_nil]; omega⟩, ?_⟩
  repeat first | refine nx ?_ | refine sq fun _ _ => ?_ | refine rg (sg ?_) | refine bl ?_ | refine sk (sg ?_) | refine xt (sg ?_) | refine lx (g := sg ?_) | refine ct (hx := ?_) | refine cf (hy := ?_) | refine lr (g := sg ?_) | refine rt (sg ?_) | refine rt ?_ | refine sk ?_ | refine xt ?_ | refine f1 (g := sg ?_) | refine f2 (g := sg ?_) | refine f3 (g := sg ?_) | refine And.intro (by first | assumption | omega) ?_
  refine ax [] ?_
  exact ⟨rfl, rfl⟩
theorem c154 (n : Int) (h0 : 0 ≤ n) (h1 : n < 10) : PC Tryd.prog 154 [.int .i64 n, .int .i64 10] [] (fun r bx => r = .str (dgt n) ∧ bx = []) := by
  refine enter (rs := [.tmp 4]) mx Tryd.func154 Tryd.ntmps154 fun Q0 hQ0 => ?_
  repeat first | refine nx ?_ | refine sq fun _ _ => ?_ | refine rg (sg ?_) | refine bl ?_ | refine sk (sg ?_) | refine xt (sg ?_) | refine lx (g := sg ?_) | refine ct (hx := ?_) | refine cf (hy := ?_) | refine lr (g := sg ?_) | refine rt (sg ?_) | refine rt ?_ | refine sk ?_ | refine xt ?_ | refine f1 (g := sg ?_) | refine f2 (g := sg ?_) | refine f3 (g := sg ?_) | refine And.intro (by first | assumption | omega) ?_
  refine cb (fun h => ?_) (fun h => ?_)
  · repeat first | refine nx ?_ | refine sq fun _ _ => ?_ | refine rg (sg ?_) | refine bl ?_ | refine sk (sg ?_) | refine xt (sg ?_) | refine lx (g := sg ?_) | refine ct (hx := ?_) | refine cf (hy := ?_) | refine lr (g := sg ?_) | refine rt (sg ?_) | refine rt ?_ | refine sk ?_ | refine xt ?_ | refine f1 (g := sg ?_) | refine f2 (g := sg ?_) | refine f3 (g := sg ?_) | refine And.intro (by first | assumption | omega) ?_
    refine cl [] (sg ?_)
    refine (c171 n h0 h1).mono ?_
    rintro r bx ⟨rfl, rfl⟩
    refine sg ?_
    repeat first | refine nx ?_ | refine sq fun _ _ => ?_ | refine rg (sg ?_) | refine bl ?_ | refine sk (sg ?_) | refine xt (sg ?_) | refine lx (g := sg ?_) | refine ct (hx := ?_) | refine cf (hy := ?_) | refine lr (g := sg ?_) | refine rt (sg ?_) | refine rt ?_ | refine sk ?_ | refine xt ?_ | refine f1 (g := sg ?_) | refine f2 (g := sg ?_) | refine f3 (g := sg ?_) | refine And.intro (by first | assumption | omega) ?_
    refine ax [] ?_
    exact ⟨rfl, rfl⟩
  · exact absurd ⟨h0, by omega⟩ h
theorem c119 (n : Int) (h0 : 0 ≤ n) (h1 : n < 10) : PC Tryd.prog 119 [.int .i64 n] [] (fun r bx => r = .str (dgt n) ∧ bx = []) := by
  refine enter (rs := [.tmp 2]) mx Tryd.func119 Tryd.ntmps119 fun Q0 hQ0 => ?_
  repeat first | refine nx ?_ | refine sq fun _ _ => ?_ | refine rg (sg ?_) | refine bl ?_ | refine sk (sg ?_) | refine xt (sg ?_) | refine lx (g := sg ?_) | refine ct (hx := ?_) | refine cf (hy := ?_) | refine lr (g := sg ?_) | refine rt (sg ?_) | refine rt ?_ | refine sk ?_ | refine xt ?_ | refine f1 (g := sg ?_) | refine f2 (g := sg ?_) | refine f3 (g := sg ?_) | refine And.intro (by first | assumption | omega) ?_
  refine cl [] (sg ?_)
  refine (c154 n h0 h1).mono ?_
  rintro r bx ⟨rfl, rfl⟩
  refine sg ?_
  repeat first | refine nx ?_ | refine sq fun _ _ => ?_ | refine rg (sg ?_) | refine bl ?_ | refine sk (sg ?_) | refine xt (sg ?_) | refine lx (g := sg ?_) | refine ct (hx := ?_) | refine cf (hy := ?_) | refine lr (g := sg ?_) | refine rt (sg ?_) | refine rt ?_ | refine sk ?_ | refine xt ?_ | refine f1 (g := sg ?_) | refine f2 (g := sg ?_) | refine f3 (g := sg ?_) | refine And.intro (by first | assumption | omega) ?_
  refine ax [] ?_
  exact ⟨rfl, rfl⟩
theorem c74 (n : Int) (h0 : 0 ≤ n) (h1 : n < 10) : PC Tryd.prog 74 [.int .i64 n] [] (fun r bx => r = .str (dgt n) ∧ bx = []) := by
  refine enter (rs := [.tmp 2]) mx Tryd.func74 Tryd.ntmps74 fun Q0 hQ0 => ?_
  repeat first | refine nx ?_ | refine sq fun _ _ => ?_ | refine rg (sg ?_) | refine bl ?_ | refine sk (sg ?_) | refine xt (sg ?_) | refine lx (g := sg ?_) | refine ct (hx := ?_) | refine cf (hy := ?_) | refine lr (g := sg ?_) | refine rt (sg ?_) | refine rt ?_ | refine sk ?_ | refine xt ?_ | refine f1 (g := sg ?_) | refine f2 (g := sg ?_) | refine f3 (g := sg ?_) | refine And.intro (by first | assumption | omega) ?_
  refine cl [] (sg ?_)
  refine (c119 n h0 h1).mono ?_
  rintro r bx ⟨rfl, rfl⟩
  refine sg ?_
  repeat first | refine nx ?_ | refine sq fun _ _ => ?_ | refine rg (sg ?_) | refine bl ?_ | refine sk (sg ?_) | refine xt (sg ?_) | refine lx (g := sg ?_) | refine ct (hx := ?_) | refine cf (hy := ?_) | refine lr (g := sg ?_) | refine rt (sg ?_) | refine rt ?_ | refine sk ?_ | refine xt ?_ | refine f1 (g := sg ?_) | refine f2 (g := sg ?_) | refine f3 (g := sg ?_) | refine And.intro (by first | assumption | omega) ?_
  refine ax [] ?_
  exact ⟨rfl, rfl⟩
theorem row_le {n sz : Nat} {f g : Nat → Nat → C} (h : ∀ i, i < n → ∀ j, j < sz → f i j = g i j) : leC (.sl n sz f) (.sl n sz g) := .row _ _ _ _ fun i hi j hj => by rw [h i hi j hj]; exact .refl _
theorem c12 (t : Int) : PC Tryd.prog 12 [.int .i64 t] [] (fun r bx => r = .one (.c (rowA 3 cCo (colsS t))) ∧ bx = []) := by
  refine enter (rs := [.tmp 2]) mx Tryd.func12 Tryd.ntmps12 fun Q0 hQ0 => ?_
  repeat first | refine nx ?_ | refine sq fun _ _ => ?_ | refine rg (sg ?_) | refine bl ?_ | refine sk (sg ?_) | refine xt (sg ?_) | refine lx (g := sg ?_) | refine ct (hx := ?_) | refine cf (hy := ?_) | refine lr (g := sg ?_) | refine rt (sg ?_) | refine rt ?_ | refine sk ?_ | refine xt ?_ | refine f1 (g := sg ?_) | refine f2 (g := sg ?_) | refine f3 (g := sg ?_) | refine And.intro (by first | assumption | omega) ?_
  refine cb (fun h => ?_) (fun h => ?_)
  · repeat first | refine nx ?_ | refine sq fun _ _ => ?_ | refine rg (sg ?_) | refine bl ?_ | refine sk (sg ?_) | refine xt (sg ?_) | refine lx (g := sg ?_) | refine ct (hx := ?_) | refine cf (hy := ?_) | refine lr (g := sg ?_) | refine rt (sg ?_) | refine rt ?_ | refine sk ?_ | refine xt ?_ | refine f1 (g := sg ?_) | refine f2 (g := sg ?_) | refine f3 (g := sg ?_) | refine And.intro (by first | assumption | omega) ?_
    have e : colsS t = [] := by unfold colsS; rw [if_pos h]
    rw [e]
    refine aw [] _ _ (.one (.c _ _ (.nil _ _))) (.refl _) ⟨rfl, rfl⟩
  · have hw : IntKind.i64.wrap (t + 1) = t + 1 := by rw [IntKind.wrap_i64]; omega
    repeat first | refine nx ?_ | refine sq fun _ _ => ?_ | refine rg (sg ?_) | refine bl ?_ | refine sk (sg ?_) | refine xt (sg ?_) | refine lx (g := sg ?_) | refine ct (hx := ?_) | refine cf (hy := ?_) | refine lr (g := sg ?_) | refine rt (sg ?_) | refine rt ?_ | refine sk ?_ | refine xt ?_ | refine f1 (g := sg ?_) | refine f2 (g := sg ?_) | refine f3 (g := sg ?_) | refine And.intro (by first | assumption | omega) ?_
    have ht : t = 0 ∨ t = 1 ∨ t = 2 := by omega
    simp only [hw]
    rcases ht with rfl | rfl | rfl
    · refine aw [] (.one (.c (rowA 3 cCo (colsS 0)))) [] (.one (.c _ _ ?_)) (.refl _) ⟨rfl, rfl⟩
      exact row_le fun i hi j hj => by rcases i with _ | _ | _ | i <;> rcases j with _ | _ | _ | j <;> first | rfl | omega
    · refine aw [] (.one (.c (rowA 3 cCo (colsS 1)))) [] (.one (.c _ _ ?_)) (.refl _) ⟨rfl, rfl⟩
      exact row_le fun i hi j hj => by rcases i with _ | _ | _ | i <;> rcases j with _ | _ | _ | j <;> first | rfl | omega
    · refine aw [] (.one (.c (rowA 3 cCo (colsS 2)))) [] (.one (.c _ _ ?_)) (.refl _) ⟨rfl, rfl⟩
      exact row_le fun i hi j hj => by rcases i with _ | _ | _ | i <;> rcases j with _ | _ | _ | j <;> first | rfl | omega
end Go.Proofs.YtdedmhmomoejkaaDoor.V
