import Derived.Test.YtdedmhmomoejkaaDoorW9
namespace Go.Proofs.YtdedmhmomoejkaaDoor.V
open Go Go.RowKit Go.Proofs.YtdedmhmomoejkaaDoorW.PrintLast
open Go.Proofs
set_option linter.unusedVariables false
set_option linter.unusedSimpArgs false
attribute [local irreducible] awp
set_option maxRecDepth 100000
theorem runL_cons (p : UInt8 → Bool) (c : UInt8) (r : List UInt8) : runL p (c :: r) = if p c then runL p r + 1 else 0 := rfl
set_option maxHeartbeats 8000000 in
theorem c72 (s : ByteArray) (c : UInt8) (r0 : List UInt8) (hl : bsL s = c :: r0) (hs : s.size ≤ 400) : PC Tryd.prog 72 [A.str s] [] (fun r bx => bx = [] ∧ ∃ t, r = .tup [(lc (cTk t), true), ([xI (oneL (c :: r0)).2], false)] ∧ ((oneL (c :: r0)).2 ≠ 0 → t = (oneL (c :: r0)).1)) := by
  have hsz := len_bsL s
  have hc0 : (bsL s)[0]? = some c := by rw [hl]; rfl
  obtain ⟨hp0, _, hg0⟩ := at_list hc0
  have hch : s.data.getD 0 0 = c := (chr_get s 0 hp0).trans hg0
  have hd1 : (bsL s).drop 1 = r0 := by rw [hl]; rfl
  have hone := oneL_cons c r0
  refine enter (rs := [.cell 2 149, .tmp 3]) mx Tryd.func72 Tryd.ntmps72 fun Q0 hQ0 => ?_
  refine sq fun _ _ => ?_
  refine rg (sg ?_)
  refine nx ?_
  refine sq fun _ _ => ?_
  refine rg (sg ?_)
  refine And.intro (by first | assumption | omega | rfl | trivial) ?_
  refine nx ?_
  refine sq fun _ _ => ?_
  refine sq fun _ _ => ?_
  refine rg (sg ?_)
  refine cl [] (sg ?_)
  refine (c114 _).mono ?_
  rintro r bx ⟨rfl, rfl⟩
  refine sg ?_
  refine nx ?_
  simp only [hch, isLt_nat]
  refine cb (fun h1 => ?_) (fun h1 => ?_)
  · rw [if_pos h1] at hone
    refine sq fun _ _ => ?_
    refine rg (sg ?_)
    refine nx ?_
    refine sq fun _ _ => ?_
    refine bl ?_
    refine lp [0, 2, 5] [0] (fun k σ => ∃ n : Nat, k = s.size - n ∧ 1 ≤ n ∧ n ≤ s.size ∧ runL namC r0 + 1 = n + runL namC ((bsL s).drop n) ∧ σ = ⟨93, 0, [(0, A.str s), (2, xPtr 0 0), (5, A.int .i64 n)], [.var [xI 0, xS ⟨#[]⟩, xI 0, xI 0] 149]⟩) (s.size - 1) ?_ ?_
    · exact ⟨1, by omega, by omega, by omega, by rw [hd1]; omega, keq⟩
    · rintro k σ' ⟨n, hk, hn1, hn, hr, rfl⟩ Q1 hQ1
      by_cases hlt : n < s.size
      · have ha := at_list' hlt
        have hcg := chr_get s n hlt
        have hd := drop_cons ha
        generalize s.get! n = d at ha hcg hd
        rw [hd, runL_cons] at hr
        have hli : (n : Int) < (s.size : Int) := by omega
        have hn : namC d = (isLt d.toNat || isDg d.toNat || decide ((d.toNat : Int) = 95)) := by
          rw [isLt_nat, isDg_nat]
          unfold namC
          congr 1
          congr 1
          apply propext
          omega
        rcases Bool.eq_false_or_eq_true (isLt d.toNat) with hA | hA
        · rw [hA] at hn
          refine sq fun _ _ => ?_
          refine sq fun _ _ => ?_
          refine rg ?_
          simp only [go_sem, Nat.reduceAdd, Nat.reduceSub, Nat.reduceMul, Nat.reduceLT, Nat.reduceLeDiff, Nat.reduceEqDiff, reduceIte, reduceCtorEq, if_true, if_false, Int.reduceEq, Int.reduceLT, Int.reduceLE, Int.reduceAdd, Int.reduceSub, Int.reduceMul, Int.reduceNeg, Int.reduceToNat, decide_true, decide_false, Nat.reduceBEq, hli]
          refine And.intro (by first | assumption | omega | rfl | trivial) ?_
          refine cl [] (sg ?_)
          refine (c114 _).mono ?_
          rintro r bx ⟨rfl, rfl⟩
          refine sg ?_
          simp only [undef]
          simp only [hcg, hA]
          refine sg ?_
          refine nx ?_
          refine ct (hx := ?_)
          refine sk (sg ?_)
          refine nx ?_
          refine bl ?_
          refine rg (sg ?_)
          simp (disch := omega) only [wrap_succ]
          refine ln (s.size - (n + 1)) [0] ?_ ?_
          · omega
          exact ⟨n + 1, by omega, by omega, by omega, by rw [hr, hn]; simp; omega, keq⟩
        · rcases Bool.eq_false_or_eq_true (isDg d.toNat) with hB | hB
          · rw [hA, hB] at hn
            refine sq fun _ _ => ?_
            refine sq fun _ _ => ?_
            refine rg ?_
            simp only [go_sem, Nat.reduceAdd, Nat.reduceSub, Nat.reduceMul, Nat.reduceLT, Nat.reduceLeDiff, Nat.reduceEqDiff, reduceIte, reduceCtorEq, if_true, if_false, Int.reduceEq, Int.reduceLT, Int.reduceLE, Int.reduceAdd, Int.reduceSub, Int.reduceMul, Int.reduceNeg, Int.reduceToNat, decide_true, decide_false, Nat.reduceBEq, hli]
            refine And.intro (by first | assumption | omega | rfl | trivial) ?_
            refine cl [] (sg ?_)
            refine (c114 _).mono ?_
            rintro r bx ⟨rfl, rfl⟩
            refine sg ?_
            simp only [undef]
            simp only [hcg, hA]
            refine sg ?_
            refine and_assoc.2 ?_
            refine And.intro (by first | assumption | omega | rfl | trivial) ?_
            refine And.intro (by first | assumption | omega | rfl | trivial) ?_
            refine cl [] (sg ?_)
            refine (c115 _).mono ?_
            rintro r bx ⟨rfl, rfl⟩
            refine sg ?_
            simp only [hB]
            refine sg ?_
            refine nx ?_
            refine ct (hx := ?_)
            refine sk (sg ?_)
            refine nx ?_
            refine bl ?_
            refine rg (sg ?_)
            simp (disch := omega) only [wrap_succ]
            refine ln (s.size - (n + 1)) [0] ?_ ?_
            · omega
            exact ⟨n + 1, by omega, by omega, by omega, by rw [hr, hn]; simp; omega, keq⟩
          · rw [hA, hB] at hn
            refine sq fun _ _ => ?_
            refine sq fun _ _ => ?_
            refine rg ?_
            simp only [go_sem, Nat.reduceAdd, Nat.reduceSub, Nat.reduceMul, Nat.reduceLT, Nat.reduceLeDiff, Nat.reduceEqDiff, reduceIte, reduceCtorEq, if_true, if_false, Int.reduceEq, Int.reduceLT, Int.reduceLE, Int.reduceAdd, Int.reduceSub, Int.reduceMul, Int.reduceNeg, Int.reduceToNat, decide_true, decide_false, Nat.reduceBEq, hli]
            refine And.intro (by first | assumption | omega | rfl | trivial) ?_
            refine cl [] (sg ?_)
            refine (c114 _).mono ?_
            rintro r bx ⟨rfl, rfl⟩
            refine sg ?_
            simp only [undef]
            simp only [hcg, hA]
            refine sg ?_
            refine and_assoc.2 ?_
            refine And.intro (by first | assumption | omega | rfl | trivial) ?_
            refine And.intro (by first | assumption | omega | rfl | trivial) ?_
            refine cl [] (sg ?_)
            refine (c115 _).mono ?_
            rintro r bx ⟨rfl, rfl⟩
            refine sg ?_
            simp only [hB, hcg]
            refine sg ?_
            refine and_assoc.2 ?_
            refine And.intro (by first | assumption | omega | rfl | trivial) ?_
            refine And.intro (by first | assumption | omega | rfl | trivial) ?_
            refine nx ?_
            refine cb (fun h6 => ?_) (fun h6 => ?_)
            · refine sk (sg ?_)
              refine nx ?_
              refine bl ?_
              refine rg (sg ?_)
              simp (disch := omega) only [wrap_succ]
              refine ln (s.size - (n + 1)) [0] ?_ ?_
              · omega
              exact ⟨n + 1, by omega, by omega, by omega, by rw [hr, hn]; simp [h6]; omega, keq⟩
            · have hr2 : runL namC r0 + 1 = n := by rw [hr, hn]; simp [h6]
              refine xt (sg ?_)
              refine lx (g := sg ?_)
              refine nx ?_
              refine sq fun _ _ => ?_
              refine rg (sg ?_)
              refine and_assoc.2 ?_
              refine And.intro (by first | assumption | omega | rfl | trivial) ?_
              refine And.intro (by first | assumption | omega | rfl | trivial) ?_
              refine nx ?_
              refine rt (sg ?_)
              refine f2 (g := sg ?_)
              refine ⟨_, _, rfl, rfl, ?_⟩
              refine ax [] ⟨rfl, ⟨1, s.extract 0 n, 0, 0⟩, ?_, fun _ => ?_⟩
              · rw [hone, hr2]
                rfl
              · rw [hone, hr2, cut_ofL s 0 n (by omega), hl]
                rfl
      · have hli : ¬ (n : Int) < (s.size : Int) := by omega
        have hr2 : runL namC r0 + 1 = n := by rw [hr, List.drop_of_length_le (by omega)]; rfl
        refine sq fun _ _ => ?_
        refine sq fun _ _ => ?_
        refine rg ?_
        simp only [go_sem, Nat.reduceAdd, Nat.reduceSub, Nat.reduceMul, Nat.reduceLT, Nat.reduceLeDiff, Nat.reduceEqDiff, reduceIte, reduceCtorEq, if_true, if_false, Int.reduceEq, Int.reduceLT, Int.reduceLE, Int.reduceAdd, Int.reduceSub, Int.reduceMul, Int.reduceNeg, Int.reduceToNat, decide_true, decide_false, Nat.reduceBEq, hli]
        simp only [undef]
        refine sg ?_
        refine nx ?_
        refine cf (hy := ?_)
        refine xt (sg ?_)
        refine lx (g := sg ?_)
        refine nx ?_
        refine sq fun _ _ => ?_
        refine rg (sg ?_)
        refine and_assoc.2 ?_
        refine And.intro (by first | assumption | omega | rfl | trivial) ?_
        refine And.intro (by first | assumption | omega | rfl | trivial) ?_
        refine nx ?_
        refine rt (sg ?_)
        refine f2 (g := sg ?_)
        refine ⟨_, _, rfl, rfl, ?_⟩
        refine ax [] ⟨rfl, ⟨1, s.extract 0 n, 0, 0⟩, ?_, fun _ => ?_⟩
        · rw [hone, hr2]
          rfl
        · rw [hone, hr2, cut_ofL s 0 n (by omega), hl]
          rfl
  · rw [if_neg h1] at hone
    refine sk (sg ?_)
    refine nx ?_
    refine sq fun _ _ => ?_
    refine sq fun _ _ => ?_
    refine rg (sg ?_)
    refine cl [] (sg ?_)
    refine (c115 _).mono ?_
    rintro r bx ⟨rfl, rfl⟩
    refine sg ?_
    refine nx ?_
    simp only [isDg_nat]
    have hdc : (digC c || decide (c.toNat = 45)) = true ↔ (digC c = true ∨ (c.toNat : Int) = 45) := by
      rw [Bool.or_eq_true, decide_eq_true_eq]
      constructor <;> rintro (h | h)
      · exact .inl h
      · exact .inr (by omega)
      · exact .inl h
      · exact .inr (by omega)
    refine cb (fun h7 => ?_) (fun h7 => ?_)
    · rw [if_pos (hdc.2 h7)] at hone
      have hval : ∀ n : Nat, 1 ≤ n → n ≤ s.size → runL digC r0 + 1 = n → ∀ (x : Int) (b : Bool), (b = true → valL (bsL (s.extract 0 n)) = some x) → (b = false → valL (bsL (s.extract 0 n)) = none) → oneL (c :: r0) = if b = true then (⟨2, ⟨#[]⟩, x, 0⟩, n) else (tk0, 0) := by
        intro n hn1 hn hr x b hb1 hb2
        rw [hone, hr]
        have e : (c :: r0).take n = bsL (s.extract 0 n) := by rw [bsL_cut s 0 n (by omega), hl]; rfl
        rw [e]
        cases b with
        | true => rw [hb1 rfl]; rfl
        | false => rw [hb2 rfl]; rfl
      refine sq fun _ _ => ?_
      refine rg (sg ?_)
      refine nx ?_
      refine sq fun _ _ => ?_
      refine bl ?_
      refine lp [0, 2, 3, 4, 6] [0] (fun k σ => ∃ n : Nat, k = s.size - n ∧ 1 ≤ n ∧ n ≤ s.size ∧ runL digC r0 + 1 = n + runL digC ((bsL s).drop n) ∧ σ = ⟨93, 0, [(0, A.str s), (2, xPtr 0 0), (3, A.int .i64 0), (4, .one (L.c (C.v (Value.int IntKind.u8 c.toNat)))), (6, A.int .i64 n)], [.var [xI 0, xS ⟨#[]⟩, xI 0, xI 0] 149]⟩) (s.size - 1) ?_ ?_
      · exact ⟨1, by omega, by omega, by omega, by rw [hd1]; omega, keq⟩
      · rintro k σ' ⟨n, hk, hn1, hn, hr, rfl⟩ Q1 hQ1
        by_cases hlt : n < s.size
        · have ha := at_list' hlt
          have hcg := chr_get s n hlt
          have hd := drop_cons ha
          generalize s.get! n = d at ha hcg hd
          rw [hd, runL_cons] at hr
          have hli : (n : Int) < (s.size : Int) := by omega
          refine sq fun _ _ => ?_
          refine sq fun _ _ => ?_
          refine rg ?_
          simp only [go_sem, Nat.reduceAdd, Nat.reduceSub, Nat.reduceMul, Nat.reduceLT, Nat.reduceLeDiff, Nat.reduceEqDiff, reduceIte, reduceCtorEq, if_true, if_false, Int.reduceEq, Int.reduceLT, Int.reduceLE, Int.reduceAdd, Int.reduceSub, Int.reduceMul, Int.reduceNeg, Int.reduceToNat, decide_true, decide_false, Nat.reduceBEq, hli]
          refine And.intro (by first | assumption | omega | rfl | trivial) ?_
          refine cl [] (sg ?_)
          refine (c115 _).mono ?_
          rintro r bx ⟨rfl, rfl⟩
          refine sg ?_
          refine nx ?_
          simp only [hcg, isDg_nat]
          refine cb (fun h9 => ?_) (fun h9 => ?_)
          · rw [if_pos h9] at hr
            refine sk (sg ?_)
            refine nx ?_
            refine bl ?_
            refine rg (sg ?_)
            simp (disch := omega) only [wrap_succ]
            refine ln (s.size - (n + 1)) [0] ?_ ?_
            · omega
            exact ⟨n + 1, by omega, by omega, by omega, by omega, keq⟩
          · rw [if_neg h9] at hr
            refine xt (sg ?_)
            refine lx (g := sg ?_)
            refine nx ?_
            refine sq fun _ _ => ?_
            refine rg (sg ?_)
            refine and_assoc.2 ?_
            refine And.intro (by first | assumption | omega | rfl | trivial) ?_
            refine And.intro (by first | assumption | omega | rfl | trivial) ?_
            refine cl [] (sg ?_)
            have hv := hval n (by omega) (by omega) hr
            refine (c116 (s.extract 0 n) (by rw [size_cut s 0 n (by omega)]; omega)).mono ?_
            rintro r bx ⟨rfl, x, b, rfl, hb1, hb2⟩
            refine sg ?_
            have hv := hv x b hb1 hb2
            cases b with
            | true =>
              refine nx ?_
              refine sq fun _ _ => ?_
              refine sq fun _ _ => ?_
              refine rg (sg ?_)
              refine nx ?_
              refine cf (hy := ?_)
              refine sk (sg ?_)
              refine nx ?_
              refine sq fun _ _ => ?_
              refine rg (sg ?_)
              refine nx ?_
              refine rt (sg ?_)
              refine f2 (g := sg ?_)
              refine ⟨_, _, rfl, rfl, ?_⟩
              refine ax [] ⟨rfl, ⟨2, ⟨#[]⟩, x, 0⟩, ?_, fun _ => ?_⟩
              · rw [hv]
                rfl
              · rw [hv]
                rfl
            | false =>
              refine nx ?_
              refine sq fun _ _ => ?_
              refine sq fun _ _ => ?_
              refine rg (sg ?_)
              refine nx ?_
              refine ct (hx := ?_)
              refine sq fun _ _ => ?_
              refine rg (sg ?_)
              refine nx ?_
              refine rt (sg ?_)
              refine f2 (g := sg ?_)
              refine ⟨_, _, rfl, rfl, ?_⟩
              refine ax [] ⟨rfl, tk0, ?_, fun hne => ?_⟩
              · rw [hv]
                rfl
              · rw [hv] at hne
                exact absurd rfl hne
        · have hli : ¬ (n : Int) < (s.size : Int) := by omega
          have hr2 : runL digC r0 + 1 = n := by rw [hr, List.drop_of_length_le (by omega)]; rfl
          refine sq fun _ _ => ?_
          refine sq fun _ _ => ?_
          refine rg ?_
          simp only [go_sem, Nat.reduceAdd, Nat.reduceSub, Nat.reduceMul, Nat.reduceLT, Nat.reduceLeDiff, Nat.reduceEqDiff, reduceIte, reduceCtorEq, if_true, if_false, Int.reduceEq, Int.reduceLT, Int.reduceLE, Int.reduceAdd, Int.reduceSub, Int.reduceMul, Int.reduceNeg, Int.reduceToNat, decide_true, decide_false, Nat.reduceBEq, hli]
          refine nx ?_
          refine cf (hy := ?_)
          refine xt (sg ?_)
          refine lx (g := sg ?_)
          refine nx ?_
          refine sq fun _ _ => ?_
          refine rg (sg ?_)
          refine and_assoc.2 ?_
          refine And.intro (by first | assumption | omega | rfl | trivial) ?_
          refine And.intro (by first | assumption | omega | rfl | trivial) ?_
          refine cl [] (sg ?_)
          simp only [undef]
          have hv := hval n (by omega) (by omega) hr2
          refine (c116 (s.extract 0 n) (by rw [size_cut s 0 n (by omega)]; omega)).mono ?_
          rintro r bx ⟨rfl, x, b, rfl, hb1, hb2⟩
          refine sg ?_
          have hv := hv x b hb1 hb2
          cases b with
          | true =>
            refine nx ?_
            refine sq fun _ _ => ?_
            refine sq fun _ _ => ?_
            refine rg (sg ?_)
            refine nx ?_
            refine cf (hy := ?_)
            refine sk (sg ?_)
            refine nx ?_
            refine sq fun _ _ => ?_
            refine rg (sg ?_)
            refine nx ?_
            refine rt (sg ?_)
            refine f2 (g := sg ?_)
            refine ⟨_, _, rfl, rfl, ?_⟩
            refine ax [] ⟨rfl, ⟨2, ⟨#[]⟩, x, 0⟩, ?_, fun _ => ?_⟩
            · rw [hv]
              rfl
            · rw [hv]
              rfl
          | false =>
            refine nx ?_
            refine sq fun _ _ => ?_
            refine sq fun _ _ => ?_
            refine rg (sg ?_)
            refine nx ?_
            refine ct (hx := ?_)
            refine sq fun _ _ => ?_
            refine rg (sg ?_)
            refine nx ?_
            refine rt (sg ?_)
            refine f2 (g := sg ?_)
            refine ⟨_, _, rfl, rfl, ?_⟩
            refine ax [] ⟨rfl, tk0, ?_, fun hne => ?_⟩
            · rw [hv]
              rfl
            · rw [hv] at hne
              exact absurd rfl hne
    · rw [if_neg (fun h => h7 (hdc.1 h))] at hone
      refine sk (sg ?_)
      refine nx ?_
      refine sq fun _ _ => ?_
      refine sq fun _ _ => ?_
      refine rg (sg ?_)
      refine nx ?_
      refine cb (fun h8 => ?_) (fun h8 => ?_)
      · rw [if_pos (by omega)] at hone
        refine sq fun _ _ => ?_
        refine rg (sg ?_)
        refine cl [] (sg ?_)
        refine (c117 _ _ _ (by first | assumption | omega | trivial | rfl) (by first | assumption | omega | trivial | rfl)).mono ?_
        rintro r bx ⟨rfl, rfl⟩
        refine sg ?_
        refine nx ?_
        refine sq fun _ _ => ?_
        refine rg (sg ?_)
        refine nx ?_
        refine rt (sg ?_)
        refine f2 (g := sg ?_)
        refine ⟨_, _, rfl, rfl, ?_⟩
        refine ax [] ⟨rfl, ⟨3, match quotL r0 with | some x => ofL x.1 | none => ⟨#[]⟩, 0, 0⟩, ?_, fun hne => ?_⟩
        · rw [hone]
          cases quotL r0 with
          | none => rfl
          | some x => rfl
        · rw [hone] at hne ⊢
          cases hq : quotL r0 with
          | none => rw [hq] at hne; exact absurd rfl hne
          | some x => rfl
      · rw [if_neg (by omega)] at hone
        have hml := markL_le (c :: r0)
        rw [← hl, hsz, hl] at hml
        refine sk (sg ?_)
        refine nx ?_
        refine sq fun _ _ => ?_
        refine rg (sg ?_)
        refine cl [] (sg ?_)
        refine (c118 _ _ _ (by first | assumption | omega | trivial | rfl) (by first | assumption | omega | trivial | rfl)).mono ?_
        rintro r bx ⟨rfl, rfl⟩
        refine sg ?_
        refine nx ?_
        refine sq fun _ _ => ?_
        refine rg (sg ?_)
        refine and_assoc.2 ?_
        refine And.intro (by first | assumption | omega | rfl | trivial) ?_
        refine And.intro (by first | assumption | omega | rfl | trivial) ?_
        refine nx ?_
        refine rt ?_
        refine f2 (g := sg ?_)
        refine ⟨_, _, rfl, rfl, ?_⟩
        refine ax [] ⟨rfl, ⟨4, s.extract 0 (markL (c :: r0)), 0, 0⟩, ?_, fun hne => ?_⟩
        · rw [hone]
          rfl
        · rw [hone, cut_ofL s 0 (markL (c :: r0)) (by omega), hl]
          rfl

end Go.Proofs.YtdedmhmomoejkaaDoor.V
