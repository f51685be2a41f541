import Derived.Test.YthafcbbkjdbomaaDoorW15
import Derived.Test.YthafcbbkjdbomaaDoorS7
namespace Go.Proofs.YthafcbbkjdbomaaDoor.V
open Go Go.RowKit Go.Proofs.YthafcbbkjdbomaaDoorW.PrintLast
open Go.Proofs
set_option linter.unusedVariables false
set_option linter.unusedSimpArgs false
attribute [local irreducible] awp
set_option maxRecDepth 100000
theorem scanL_two (n : Nat) : ∀ (N : Nat) (l : List UInt8) (i : Nat) (acc : List Tk), l.length ≤ N → (scanL n l i acc).2.2 = 0 ∨ (scanL n l i acc).2.2 = 2 := by
  intro N
  induction N with
  | zero =>
    intro l i acc h
    obtain rfl : l = [] := List.eq_nil_of_length_eq_zero (by omega)
    rw [scanL_nil]
    exact .inl rfl
  | succ N ih =>
    intro l i acc h
    cases l with
    | nil => rw [scanL_nil]; exact .inl rfl
    | cons c q =>
      have hq : q.length ≤ N := by simpa using h
      rw [scanL_cons]
      by_cases hb : blkC c = true
      · rw [if_pos hb]
        exact ih q (i + 1) acc hq
      · rw [if_neg hb]
        by_cases ho : (oneL (c :: q)).2 = 0
        · rw [if_pos ho]
          exact .inr rfl
        · rw [if_neg ho]
          exact ih ((c :: q).drop (oneL (c :: q)).2) (i + (oneL (c :: q)).2) _ (by rw [List.length_drop]; simp; omega)
theorem allT_two (s : ByteArray) (hs : s.size ≤ 400) : (allT s).2.2 = 0 ∨ (allT s).2.2 = 2 := by
  unfold allT
  rw [if_neg (by omega)]
  exact scanL_two _ _ _ _ _ (Nat.le_refl _)
set_option maxHeartbeats 8000000 in
theorem c3 (a b : ByteArray) : PC Tryd.prog 3 [A.str a, A.str b] [] (fun r bx => r = .bool true ∧ bx = []) := by
  have hla := allT_len a
  have hlb := allT_len b
  refine enter (rs := [.tmp 4]) mx Tryd.func3 Tryd.ntmps3 fun Q0 hQ0 => ?_
  refine sq fun _ _ => ?_
  refine rg (sg ?_)
  refine nx ?_
  refine sq fun _ _ => ?_
  refine sq fun _ _ => ?_
  refine rg (sg ?_)
  refine nx ?_
  refine cb (fun h => ?_) (fun h => ?_)
  · refine sq fun _ _ => ?_
    refine rg (sg ?_)
    refine cl [] (sg ?_)
    refine (c8).mono ?_
    rintro r bx ⟨rfl, rfl⟩
    refine sg ?_
    refine nx ?_
    refine rt (sg ?_)
    refine f1 (g := sg ?_)
    exact ax [] ⟨rfl, rfl⟩
  · have ha : a.size ≤ 150 := by omega
    have hb : b.size ≤ 150 := by omega
    have haT := allT_two a (by omega)
    have hbT := allT_two b (by omega)
    refine sk (sg ?_)
    refine nx ?_
    refine sq fun _ _ => ?_
    refine rg (sg ?_)
    refine cl [] (sg ?_)
    refine (c9 _).mono ?_
    rintro r bx ⟨rfl, rfl⟩
    refine sg ?_
    refine nx ?_
    refine sq fun _ _ => ?_
    refine rg (sg ?_)
    refine cl [] (sg ?_)
    refine (c9 _).mono ?_
    rintro r bx ⟨rfl, rfl⟩
    refine sg ?_
    refine nx ?_
    refine sq fun _ _ => ?_
    refine sq fun _ _ => ?_
    rcases haT with h1 | h1
    · obtain ⟨T, hT, -⟩ := allT_join a a ha ha h1 h1
      have hx : rT (allT a).1 = rowA 4 cTk (T ++ [⟨0, ⟨#[]⟩, 0, a.size⟩]) := by unfold rT; rw [hT, if_neg (by simp)]
      rcases hbT with h2 | h2
      · obtain ⟨T2, hT2, -⟩ := allT_join b b hb hb h2 h2
        obtain ⟨T0, hT0, hz⟩ := allT_join a b ha hb h1 h2
        obtain rfl : T0 = T := List.append_cancel_right (hT0.symm.trans hT)
        rw [hT2] at hz
        have hy : rT (allT b).1 = rowA 4 cTk (T2 ++ [⟨0, ⟨#[]⟩, 0, b.size⟩]) := by unfold rT; rw [hT2, if_neg (by simp)]
        have hzt : rT (allT (a ++ ⟨#[10]⟩ ++ b)).1 = rowA 4 cTk (T0 ++ (T2 ++ [(⟨0, ⟨#[]⟩, 0, b.size⟩ : Tk)]).map (shT (a.size + 1))) := by unfold rT; rw [hz, if_neg (by simp)]
        have hz2 : (allT (a ++ ⟨#[10]⟩ ++ b)).2.1 = ((a.size + 1 + b.size : Nat) : Int) := by rw [hz]
        have hz3 : (allT (a ++ ⟨#[10]⟩ ++ b)).2.2 = 0 := by rw [hz]
        have hl1 : T0.length ≤ 400 := by rw [hT] at hla; simp at hla; omega
        have hl2 : T2.length ≤ 400 := by rw [hT2] at hlb; simp at hlb; omega
        have hw1 : IntKind.i64.wrap (IntKind.i64.wrap ((a.size : Int) + (b.size : Int)) + 1) = ((a.size + 1 + b.size : Nat) : Int) := wj1 a.size b.size ha hb
        have hw2 : IntKind.i64.wrap (((T0.length + 1 : Nat) : Int) - 1) = (T0.length : Int) := by rw [IntKind.wrap_i64]; omega
        have hw3 : IntKind.i64.wrap ((T0.length : Int) + ((T2.length + 1 : Nat) : Int)) = ((T0.length + (T2.length + 1) : Nat) : Int) := by rw [IntKind.wrap_i64]; omega
        obtain ⟨X, hX⟩ : ∃ X, X = elemsOf ((T0 ++ [(⟨0, ⟨#[]⟩, 0, a.size⟩ : Tk)]).map cTk) := ⟨_, rfl⟩
        obtain ⟨Y, hY⟩ : ∃ Y, Y = elemsOf ((T2 ++ [(⟨0, ⟨#[]⟩, 0, b.size⟩ : Tk)]).map cTk) := ⟨_, rfl⟩
        obtain ⟨Z, hZ⟩ : ∃ Z, Z = elemsOf ((T0 ++ (T2 ++ [(⟨0, ⟨#[]⟩, 0, b.size⟩ : Tk)]).map (shT (a.size + 1))).map cTk) := ⟨_, rfl⟩
        have hx2 : rT (allT a).1 = .sl (T0.length + 1) 4 X := by rw [hx, hX]; unfold rowA; rw [List.length_append]; rfl
        have hy2 : rT (allT b).1 = .sl (T2.length + 1) 4 Y := by rw [hy, hY]; unfold rowA; rw [List.length_append]; rfl
        have hz4 : rT (allT (a ++ ⟨#[10]⟩ ++ b)).1 = .sl (T0.length + (T2.length + 1)) 4 Z := by rw [hzt, hZ]; unfold rowA; rw [List.length_append, List.length_map, List.length_append]; rfl
        simp only [h1, h2, hx2, hy2]
        refine rg (sg ?_)
        refine cl [] (sg ?_)
        refine (c10 _).mono ?_
        rintro r bx ⟨rfl, rfl⟩
        refine sg ?_
        refine cl [] (sg ?_)
        refine (c10 _).mono ?_
        rintro r bx ⟨rfl, rfl⟩
        refine sg ?_
        refine nx ?_
        refine cf (hy := ?_)
        refine sk (sg ?_)
        refine nx ?_
        refine sq fun _ _ => ?_
        refine rg (sg ?_)
        refine And.intro (by simp; omega) ?_
        refine And.intro (by simp; omega) ?_
        refine cl [] (sg ?_)
        refine (c9 _).mono ?_
        rintro r bx ⟨rfl, rfl⟩
        refine sg ?_
        refine nx ?_
        refine sq fun _ _ => ?_
        refine sq fun _ _ => ?_
        simp only [hz4, hz2, hz3]
        refine rg (sg ?_)
        refine cl [] (sg ?_)
        refine (c10 _).mono ?_
        rintro r bx ⟨rfl, rfl⟩
        refine sg ?_
        refine nx ?_
        simp only [go_sem, Nat.reduceAdd, Nat.reduceSub, Nat.reduceMul, Nat.reduceLT, Nat.reduceLeDiff, Nat.reduceEqDiff, reduceIte, reduceCtorEq, if_true, if_false, Int.reduceEq, Int.reduceLT, Int.reduceLE, Int.reduceAdd, Int.reduceSub, Int.reduceMul, Int.reduceNeg, Int.reduceToNat, decide_true, decide_false, Nat.reduceBEq, hw1, hw2, hw3]
        refine cf (hy := ?_)
        refine sk (sg ?_)
        refine nx ?_
        refine sq fun _ _ => ?_
        refine sq fun _ _ => ?_
        refine rg (sg ?_)
        refine nx ?_
        refine bl ?_
        refine lp [0, 4, 5, 8, 11, 14] [] (fun k σ => ∃ i : Nat, k = T0.length + (T2.length + 1) - i ∧ i ≤ T0.length + (T2.length + 1) ∧ σ = ⟨132, 0, [(0, A.str a), (4, A.bool false), (5, xRow (T0.length + 1) 4 X), (8, xRow (T2.length + 1) 4 Y), (11, xRow (T0.length + (T2.length + 1)) 4 Z), (14, A.int .i64 i)], []⟩) (T0.length + (T2.length + 1)) ?_ ?_
        · exact ⟨0, by omega, by omega, keq⟩
        · rintro k σ' ⟨i, hk, hi, rfl⟩ Q1 hQ1
          refine sq fun _ _ => ?_
          refine sq fun _ _ => ?_
          refine rg (sg ?_)
          refine nx ?_
          refine cb (fun h4 => ?_) (fun h4 => ?_)
          · have hwi : IntKind.i64.wrap ((i : Int) + 1) = ((i + 1 : Nat) : Int) := wrap_succ (by omega)
            refine sk (sg ?_)
            refine nx ?_
            refine sq fun _ _ => ?_
            refine bl ?_
            refine sq fun _ _ => ?_
            refine rg (sg ?_)
            refine nx ?_
            refine sq fun _ _ => ?_
            refine sq fun _ _ => ?_
            by_cases hiT : i < T0.length
            · obtain ⟨⟨k0, s0, n0, a0⟩, hZi, hXi⟩ := wj_lo2 T0 (⟨0, ⟨#[]⟩, 0, a.size⟩ : Tk) ((T2 ++ [(⟨0, ⟨#[]⟩, 0, b.size⟩ : Tk)]).map (shT (a.size + 1))) hiT
              rw [← hZ] at hZi
              rw [← hX] at hXi
              have z0 : Z i 0 = .v (.int .i64 k0) := by rw [hZi]; rfl
              have z1 : Z i 1 = .v (.string s0) := by rw [hZi]; rfl
              have z2 : Z i 2 = .v (.int .i64 n0) := by rw [hZi]; rfl
              have z3 : Z i 3 = .v (.int .i64 a0) := by rw [hZi]; rfl
              have x0 : X i 0 = .v (.int .i64 k0) := by rw [hXi]; rfl
              have x1 : X i 1 = .v (.string s0) := by rw [hXi]; rfl
              have x2 : X i 2 = .v (.int .i64 n0) := by rw [hXi]; rfl
              have x3 : X i 3 = .v (.int .i64 a0) := by rw [hXi]; rfl
              refine rg (sg ?_)
              simp only [go_sem, Nat.reduceAdd, Nat.reduceSub, Nat.reduceMul, Nat.reduceLT, Nat.reduceLeDiff, Nat.reduceEqDiff, reduceIte, reduceCtorEq, if_true, if_false, Int.reduceEq, Int.reduceLT, Int.reduceLE, Int.reduceAdd, Int.reduceSub, Int.reduceMul, Int.reduceNeg, Int.reduceToNat, decide_true, decide_false, Nat.reduceBEq, hw2]
              refine nx ?_
              refine cb (fun h5 => ?_) (fun h5 => ?_)
              · refine rg (sg ?_)
                refine and_assoc.2 ?_
                refine And.intro (by first | assumption | omega | rfl | trivial) ?_
                refine And.intro (by first | assumption | omega | rfl | trivial) ?_
                simp only [go_sem, Nat.reduceAdd, Nat.reduceSub, Nat.reduceMul, Nat.reduceLT, Nat.reduceLeDiff, Nat.reduceEqDiff, reduceIte, reduceCtorEq, if_true, if_false, Int.reduceEq, Int.reduceLT, Int.reduceLE, Int.reduceAdd, Int.reduceSub, Int.reduceMul, Int.reduceNeg, Int.reduceToNat, decide_true, decide_false, Nat.reduceBEq, x0, x1, x2, x3]
                refine nx ?_
                refine sq fun _ _ => ?_
                refine dr [.take 0, .take 1, .take 2, .take 3, .take 4, .take 5] [] (sg ?_)
                refine and_assoc.2 ?_
                refine And.intro (by first | assumption | omega | rfl | trivial) ?_
                refine And.intro (by first | assumption | omega | rfl | trivial) ?_
                refine and_assoc.2 ?_
                simp only [go_sem, Nat.reduceAdd, Nat.reduceSub, Nat.reduceMul, Nat.reduceLT, Nat.reduceLeDiff, Nat.reduceEqDiff, reduceIte, reduceCtorEq, if_true, if_false, Int.reduceEq, Int.reduceLT, Int.reduceLE, Int.reduceAdd, Int.reduceSub, Int.reduceMul, Int.reduceNeg, Int.reduceToNat, decide_true, decide_false, Nat.reduceBEq, z0, z1, z2, z3]
                refine nx ?_
                refine cf (hy := ?_)
                refine sk (sg ?_)
                refine nx ?_
                refine rg (sg ?_)
                simp (disch := omega) only [wrap_succ]
                refine ln (T0.length + (T2.length + 1) - (i + 1)) [] ?_ ?_
                · omega
                exact ⟨i + 1, by omega, by omega, keq⟩
              · exact absurd (by omega) h5
            · obtain ⟨⟨k0, s0, n0, a0⟩, ht, hZi, hYi⟩ := wj_hi2 T0 (T2 ++ [(⟨0, ⟨#[]⟩, 0, b.size⟩ : Tk)]) (a.size + 1) (i := i) (by omega) (by simp; omega)
              rw [← hZ] at hZi
              rw [← hY] at hYi
              have z0 : Z i 0 = .v (.int .i64 k0) := by rw [hZi]; rfl
              have z1 : Z i 1 = .v (.string s0) := by rw [hZi]; rfl
              have z2 : Z i 2 = .v (.int .i64 n0) := by rw [hZi]; rfl
              have z3 : Z i 3 = .v (.int .i64 (a0 + ((a.size + 1 : Nat) : Int))) := by rw [hZi]; rfl
              have y0 : Y (i - T0.length) 0 = .v (.int .i64 k0) := by rw [hYi]; rfl
              have y1 : Y (i - T0.length) 1 = .v (.string s0) := by rw [hYi]; rfl
              have y2 : Y (i - T0.length) 2 = .v (.int .i64 n0) := by rw [hYi]; rfl
              have y3 : Y (i - T0.length) 3 = .v (.int .i64 a0) := by rw [hYi]; rfl
              have hat := allT_at b _ (by rw [hT2]; exact ht)
              have hat1 : (0 : Int) ≤ a0 := hat.1
              have hat2 : a0 ≤ (b.size : Int) := hat.2
              have hww := wj2 a0 a.size hat1 (by omega) (by omega)
              have hwj : IntKind.i64.wrap (IntKind.i64.wrap ((i : Int) - ((T0.length + 1 : Nat) : Int)) + 1) = ((i - T0.length : Nat) : Int) := by
                have e1 : IntKind.i64.wrap ((i : Int) - ((T0.length + 1 : Nat) : Int)) = (i : Int) - ((T0.length + 1 : Nat) : Int) := by rw [IntKind.wrap_i64]; omega
                rw [e1, IntKind.wrap_i64]
                omega
              refine rg (sg ?_)
              simp only [go_sem, Nat.reduceAdd, Nat.reduceSub, Nat.reduceMul, Nat.reduceLT, Nat.reduceLeDiff, Nat.reduceEqDiff, reduceIte, reduceCtorEq, if_true, if_false, Int.reduceEq, Int.reduceLT, Int.reduceLE, Int.reduceAdd, Int.reduceSub, Int.reduceMul, Int.reduceNeg, Int.reduceToNat, decide_true, decide_false, Nat.reduceBEq, hw2]
              refine nx ?_
              refine cb (fun h5 => ?_) (fun h5 => ?_)
              · exact absurd (by omega) hiT
              · refine sq fun _ _ => ?_
                refine rg (sg ?_)
                simp only [go_sem, Nat.reduceAdd, Nat.reduceSub, Nat.reduceMul, Nat.reduceLT, Nat.reduceLeDiff, Nat.reduceEqDiff, reduceIte, reduceCtorEq, if_true, if_false, Int.reduceEq, Int.reduceLT, Int.reduceLE, Int.reduceAdd, Int.reduceSub, Int.reduceMul, Int.reduceNeg, Int.reduceToNat, decide_true, decide_false, Nat.reduceBEq, hwj, y0, y1, y2, y3]
                refine and_assoc.2 ?_
                refine And.intro (by first | assumption | omega | rfl | trivial) ?_
                refine And.intro (by first | assumption | omega | rfl | trivial) ?_
                refine nx ?_
                refine rg (sg ?_)
                refine nx ?_
                refine sq fun _ _ => ?_
                refine dr [.take 0, .take 1, .take 2, .take 3, .take 4, .take 5] [] (sg ?_)
                refine and_assoc.2 ?_
                refine And.intro (by first | assumption | omega | rfl | trivial) ?_
                refine And.intro (by first | assumption | omega | rfl | trivial) ?_
                refine and_assoc.2 ?_
                simp only [go_sem, Nat.reduceAdd, Nat.reduceSub, Nat.reduceMul, Nat.reduceLT, Nat.reduceLeDiff, Nat.reduceEqDiff, reduceIte, reduceCtorEq, if_true, if_false, Int.reduceEq, Int.reduceLT, Int.reduceLE, Int.reduceAdd, Int.reduceSub, Int.reduceMul, Int.reduceNeg, Int.reduceToNat, decide_true, decide_false, Nat.reduceBEq, z0, z1, z2, z3, hww]
                refine nx ?_
                refine cf (hy := ?_)
                refine sk (sg ?_)
                refine nx ?_
                refine rg (sg ?_)
                simp (disch := omega) only [wrap_succ]
                refine ln (T0.length + (T2.length + 1) - (i + 1)) [] ?_ ?_
                · omega
                exact ⟨i + 1, by omega, by omega, keq⟩
          · refine xt (sg ?_)
            refine lx (g := sg ?_)
            refine nx ?_
            refine sq fun _ _ => ?_
            refine rg (sg ?_)
            refine cl [] (sg ?_)
            refine (c8).mono ?_
            rintro r bx ⟨rfl, rfl⟩
            refine sg ?_
            refine nx ?_
            refine rt ?_
            refine f1 (g := sg ?_)
            exact ax [] ⟨rfl, rfl⟩
      · have hy : rT (allT b).1 = .v (.slice none 0 0) := by unfold rT; rw [allT_err b (by omega), if_pos rfl]
        simp only [h1, h2, hx, hy, rowA]
        refine rg (sg ?_)
        refine cl [] (sg ?_)
        refine (c10 _).mono ?_
        rintro r bx ⟨rfl, rfl⟩
        refine sg ?_
        refine cl [] (sg ?_)
        refine (c10 _).mono ?_
        rintro r bx ⟨rfl, rfl⟩
        refine sg ?_
        refine nx ?_
        refine ct (hx := ?_)
        refine sq fun _ _ => ?_
        refine rg (sg ?_)
        refine cl [] (sg ?_)
        refine (c8).mono ?_
        rintro r bx ⟨rfl, rfl⟩
        refine sg ?_
        refine cl [] (sg ?_)
        refine (c10 _).mono ?_
        rintro r bx ⟨rfl, rfl⟩
        refine sg ?_
        refine nx ?_
        refine rt (sg ?_)
        refine f1 (g := sg ?_)
        exact ax [] ⟨by rw [show decide (0 < ((T.length + 1 : Nat) : Int)) = true from decide_eq_true (by omega)]; rfl, rfl⟩
    · have hx : rT (allT a).1 = .v (.slice none 0 0) := by unfold rT; rw [allT_err a (by omega), if_pos rfl]
      simp only [h1, hx]
      refine rg (sg ?_)
      refine cl [] (sg ?_)
      refine (c10 _).mono ?_
      rintro r bx ⟨rfl, rfl⟩
      refine sg ?_
      simp only [undef]
      refine sg ?_
      refine nx ?_
      refine ct (hx := ?_)
      refine sq fun _ _ => ?_
      refine rg (sg ?_)
      refine cl [] (sg ?_)
      refine (c8).mono ?_
      rintro r bx ⟨rfl, rfl⟩
      refine sg ?_
      refine cl [] (sg ?_)
      refine (c10 _).mono ?_
      rintro r bx ⟨rfl, rfl⟩
      refine sg ?_
      refine nx ?_
      refine rt (sg ?_)
      refine f1 (g := sg ?_)
      exact ax [] ⟨rfl, rfl⟩

end Go.Proofs.YthafcbbkjdbomaaDoor.V
