import Derived.Test.YthafcbbkjdbomaaDoorW13
namespace Go.Proofs.YthafcbbkjdbomaaDoor.V
open Go Go.RowKit Go.Proofs.YthafcbbkjdbomaaDoorW.PrintLast
open Go.Proofs
set_option linter.unusedVariables false
set_option linter.unusedSimpArgs false
attribute [local irreducible] awp
set_option maxRecDepth 100000
theorem dec_to {s : ByteArray} {j n : Nat} {b e : UInt8} (hb : (bsL s)[j]? = some b) (hjn : j < n) (he : (bsL s)[n - 1]? = some e) (hl : e.toNat < 128) : 1 ≤ (Utf8.decode s j).2 ∧ j + (Utf8.decode s j).2 ≤ n := by
  by_cases hb2 : b.toNat < 128
  · rw [dec_low hb hb2]
    exact ⟨Nat.le_refl _, hjn⟩
  · refine ⟨(dec_high hb (by omega)).2, Nat.le_of_not_lt fun hlt => ?_⟩
    by_cases h0 : n - 1 = j
    · rw [h0, hb] at he
      obtain rfl := Option.some.inj he
      exact hb2 hl
    · obtain ⟨t, ht⟩ : ∃ t, n - 1 = j + t := ⟨n - 1 - j, by omega⟩
      rw [ht] at he
      have := dec_in hb (j := t) (by omega) (by omega) he
      omega
/-- What a rune tells about the byte it begins with. -/
theorem dec_is {s : ByteArray} {j : Nat} {b : UInt8} (hb : (bsL s)[j]? = some b) : isLt ((Utf8.decode s j).1 : Int) = letC b ∧ isDg ((Utf8.decode s j).1 : Int) = digC b ∧ (((Utf8.decode s j).1 : Int) = 45 ↔ b.toNat = 45) ∧ (((Utf8.decode s j).1 : Int) = 39 ↔ b.toNat = 39) := by
  by_cases hb2 : b.toNat < 128
  · rw [dec_low hb hb2]
    exact ⟨isLt_nat b, isDg_nat b, by omega, by omega⟩
  · obtain ⟨h1, _⟩ := dec_high hb (by omega)
    refine ⟨?_, ?_, by omega, by omega⟩
    · unfold isLt letC
      rw [Bool.eq_iff_iff]
      simp
      omega
    · unfold isDg digC
      rw [Bool.eq_iff_iff]
      simp
      omega
theorem dec_blk {s : ByteArray} {j : Nat} {b : UInt8} (hb : (bsL s)[j]? = some b) : ((((Utf8.decode s j).1 : Int) = 32 ∨ ((Utf8.decode s j).1 : Int) = 9) ∨ ((Utf8.decode s j).1 : Int) = 10) ↔ blkC b = true := by
  unfold blkC
  rw [Bool.or_eq_true, Bool.or_eq_true, decide_eq_true_eq, decide_eq_true_eq, decide_eq_true_eq]
  by_cases hb2 : b.toNat < 128
  · rw [dec_low hb hb2]
    omega
  · obtain ⟨h1, _⟩ := dec_high hb (by omega)
    omega
theorem blk_low {b : UInt8} (h : blkC b = true) : b.toNat < 128 := by
  unfold blkC at h
  rw [Bool.or_eq_true, Bool.or_eq_true, decide_eq_true_eq, decide_eq_true_eq, decide_eq_true_eq] at h
  omega
set_option maxHeartbeats 16000000 in
theorem c9 (s : ByteArray) : PC Tryd.prog 9 [A.str s] [] (fun r bx => bx = [] ∧ r = .tup [([.c (rT (allT s).1)], false), ([xI (allT s).2.1], false), ([xI (allT s).2.2], false)]) := by
  have hsz := len_bsL s
  refine enter (rs := [.tmp 2, .tmp 3, .tmp 4]) mx Tryd.func9 Tryd.ntmps9 fun Q0 hQ0 => ?_
  refine sq fun _ _ => ?_
  refine rg (sg ?_)
  refine nx ?_
  refine sq fun _ _ => ?_
  refine sq fun _ _ => ?_
  refine rg (sg ?_)
  refine nx ?_
  refine cb (fun h => ?_) (fun h => ?_)
  · have ha : allT s = ([], 0, 3) := if_pos (by omega)
    refine sq fun _ _ => ?_
    refine rg (sg ?_)
    refine nx ?_
    refine rt (sg ?_)
    refine f3 (g := sg ?_)
    refine ⟨_, _, _, rfl, rfl, rfl, ax [] ⟨rfl, ?_⟩⟩
    rw [ha]
    rfl
  · have ha : allT s = scanL s.size (bsL s) 0 [] := if_neg (by omega)
    refine sk (sg ?_)
    refine nx ?_
    refine sq fun _ _ => ?_
    refine rg (sg ?_)
    refine nx ?_
    refine sq fun _ _ => ?_
    refine rg (sg ?_)
    refine nx ?_
    refine sq fun _ _ => ?_
    refine sq fun _ _ => ?_
    refine rg (sg ?_)
    refine nx ?_
    refine bl ?_
    refine lp [0, 2, 3, 4, 5, 6, 15] [0] (fun k σ => ∃ (j np m : Nat) (acc : List Tk) (x : A) (X : List B), k = s.size - j ∧ np ≤ s.size ∧ acc.length ≤ np ∧ (np ≤ j → m = j) ∧ (j < np → m = np ∧ ∃ e, (bsL s)[np - 1]? = some e ∧ e.toNat < 128) ∧ allT s = scanL s.size ((bsL s).drop m) m acc ∧
      ((acc = [] ∧ x = .one (.c (.v (.slice none 0 0))) ∧ X = []) ∨ (acc ≠ [] ∧ x = xOwn 1 4 0 acc.length ∧ X = [.arr (acc.map fun x => lc (cTk x)) 4 29])) ∧
      σ = ⟨55, 0, [(0, A.str s), (2, A.one (L.c (C.v (Value.slice none 0 0)))), (3, A.int .i64 0), (4, A.int .i64 0), (5, x), (6, A.int .i64 np), (15, xPtr 0 0)], .iter s j :: X⟩) s.size ?_ ?_
    · exact ⟨0, 0, 0, [], _, _, by omega, by omega, by simp, fun _ => rfl, fun h => absurd h (Nat.lt_irrefl _), ha, .inl ⟨rfl, rfl, rfl⟩, keq⟩
    · rintro k σ' ⟨j, np, m, acc, x, X, hk, hnp, hacc, hm1, hm2, hq, hX, rfl⟩ Q1 hQ1
      rcases hX with ⟨rfl, rfl, rfl⟩ | ⟨hne, rfl, rfl⟩
      · refine sq fun _ _ => ?_
        refine rg (sg ?_)
        refine ⟨fun hlt => ?_, fun hge => ?_⟩
        · have hat := at_list' hlt
          generalize s.get! j = b at hat
          by_cases hA : (j : Int) < (np : Int)
          · obtain ⟨hm3, e, he, hel⟩ := hm2 (by omega)
            clear hm2
            obtain ⟨hw1, hw2⟩ := dec_to hat (by omega) he hel
            refine nx ?_
            refine sq fun _ _ => ?_
            refine ct (hx := ?_)
            refine sk (sg ?_)
            refine nx ?_
            refine bl ?_
            refine sq fun _ _ => ?_
            refine rg (sg ?_)
            refine nx ?_
            refine sq fun _ _ => ?_
            refine sq fun _ _ => ?_
            refine rg ?_
            simp only [go_sem, Nat.reduceAdd, Nat.reduceSub, Nat.reduceMul, Nat.reduceLT, Nat.reduceLeDiff, Nat.reduceEqDiff, reduceIte, reduceCtorEq, if_true, if_false, Int.reduceEq, Int.reduceLT, Int.reduceLE, Int.reduceAdd, Int.reduceSub, Int.reduceMul, Int.reduceNeg, Int.reduceToNat, decide_true, decide_false, Nat.reduceBEq, hA]
            refine nx ?_
            refine ct (hx := ?_)
            refine xt (sg ?_)
            simp only [undef]
            refine ln (s.size - (j + (Utf8.decode s j).2)) [0] ?_ ?_
            · omega
            exact ⟨j + (Utf8.decode s j).2, np, m, [], _, _, rfl, hnp, hacc, fun h => by omega, fun _ => ⟨hm3, e, he, hel⟩, hq, .inl ⟨rfl, rfl, rfl⟩, keq⟩
          · clear hm2
            obtain rfl := hm1 (by omega)
            clear hm1
            have hd := drop_cons hat
            rw [hd, scanL_cons] at hq
            have hdi := dec_is hat
            have hdb := dec_blk hat
            have hl1 : bsL (s.extract m s.size) = b :: (bsL s).drop (m + 1) := by rw [bsL_cut s m _ (Nat.le_refl _), hd]; exact List.take_of_length_le (by rw [← hd, List.length_drop]; omega)
            have hs1 : (s.extract m s.size).size ≤ 400 := by rw [size_cut s m _ (Nat.le_refl _)]; omega
            have hole := oneL_le (b :: (bsL s).drop (m + 1))
            refine nx ?_
            refine sq fun _ _ => ?_
            refine ct (hx := ?_)
            refine sk (sg ?_)
            refine nx ?_
            refine bl ?_
            refine sq fun _ _ => ?_
            refine rg (sg ?_)
            refine nx ?_
            refine sq fun _ _ => ?_
            refine sq fun _ _ => ?_
            refine rg ?_
            simp only [go_sem, Nat.reduceAdd, Nat.reduceSub, Nat.reduceMul, Nat.reduceLT, Nat.reduceLeDiff, Nat.reduceEqDiff, reduceIte, reduceCtorEq, if_true, if_false, Int.reduceEq, Int.reduceLT, Int.reduceLE, Int.reduceAdd, Int.reduceSub, Int.reduceMul, Int.reduceNeg, Int.reduceToNat, decide_true, decide_false, Nat.reduceBEq, hA]
            refine cl [] (sg ?_)
            refine (c32 _).mono ?_
            rintro r bx ⟨rfl, rfl⟩
            refine sg ?_
            refine nx ?_
            refine cb (fun h3 => ?_) (fun h3 => ?_)
            · have hb1 := hdb.1 h3
              have hw : (Utf8.decode s m).2 = 1 := by rw [dec_low hat (blk_low hb1)]
              rw [if_pos hb1] at hq
              rw [hw]
              refine xt (sg ?_)
              refine ln (s.size - (m + 1)) [0] ?_ ?_
              · omega
              exact ⟨m + 1, np, m + 1, [], _, _, rfl, hnp, hacc, fun _ => rfl, fun h => by omega, hq, .inl ⟨rfl, rfl, rfl⟩, keq⟩
            · rw [if_neg (fun h => h3 (hdb.2 h))] at hq
              refine sk (sg ?_)
              refine nx ?_
              refine sq fun _ _ => ?_
              refine rg (sg ?_)
              refine and_assoc.2 ?_
              refine And.intro (by first | assumption | omega | rfl | trivial) ?_
              refine and_assoc.2 ?_
              refine And.intro (by first | assumption | omega | rfl | trivial) ?_
              refine And.intro (by first | assumption | omega | rfl | trivial) ?_
              refine cl [] (sg ?_)
              refine (c33 _ _ _ _ (by first | assumption | omega | trivial | rfl) (by first | assumption | omega | trivial | rfl) (by first | assumption | omega | trivial | rfl)).mono ?_
              rintro r bx ⟨rfl, t, rfl, ht⟩
              refine sg ?_
              rw [← hd, List.length_drop] at hole
              rw [hd] at hole
              generalize oneL (b :: (bsL s).drop (m + 1)) = o at hq ht hole ⊢
              obtain ⟨⟨k0, s0, n0, a0⟩, n⟩ := o
              dsimp only at hq ht hole ⊢
              refine And.intro (by first | assumption | omega | rfl | trivial) ?_
              refine And.intro (by first | assumption | omega | rfl | trivial) ?_
              refine nx ?_
              refine sq fun _ _ => ?_
              refine sq fun _ _ => ?_
              refine rg (sg ?_)
              refine nx ?_
              refine cb (fun h4 => ?_) (fun h4 => ?_)
              · rw [if_pos (by omega)] at hq
                refine sq fun _ _ => ?_
                refine rg (sg ?_)
                refine nx ?_
                refine rt (sg ?_)
                refine lr (g := sg ?_)
                refine f3 (g := sg ?_)
                refine ⟨_, _, _, rfl, rfl, rfl, ax [] ⟨rfl, ?_⟩⟩
                rw [hq]
                rfl
              · rw [if_neg (by omega)] at hq
                have ht := ht (by omega)
                subst ht
                obtain ⟨hole1, hole2⟩ := hole
                obtain ⟨k1, rfl⟩ : ∃ k1, n = k1 + 1 := ⟨n - 1, by omega⟩
                obtain ⟨e, he⟩ : ∃ e, (bsL s)[m + (k1 + 1) - 1]? = some e := ⟨_, List.getElem?_eq_getElem (by omega)⟩
                have hel := hole2 k1 rfl e (by rw [← hd, List.getElem?_drop, ← he]; rfl)
                obtain ⟨hw1, hw2⟩ := dec_to hat (n := m + (k1 + 1)) (by omega) he hel
                have hwi : IntKind.i64.wrap ((m : Int) + ((k1 + 1 : Nat) : Int)) = ((m + (k1 + 1) : Nat) : Int) := by rw [IntKind.wrap_i64]; omega
                rw [← hd, List.drop_drop] at hq
                refine sk (sg ?_)
                refine nx ?_
                refine sq fun _ _ => ?_
                refine rg (sg ?_)
                refine And.intro (by simp; omega) ?_
                refine nx ?_
                refine sq fun _ _ => ?_
                refine rg (sg ?_)
                refine And.intro (by simp; omega) ?_
                refine And.intro (by first | assumption | omega | rfl | trivial) ?_
                refine And.intro (by first | assumption | omega | rfl | trivial) ?_
                refine And.intro (by first | assumption | omega | rfl | trivial) ?_
                refine nx ?_
                refine rg (sg ?_)
                simp only [hwi]
                refine ln (s.size - (m + (Utf8.decode s m).2)) [0, 3] ?_ ?_
                · omega
                exact ⟨m + (Utf8.decode s m).2, m + (k1 + 1), m + (k1 + 1), [] ++ [⟨k0, s0, n0, m⟩], _, _, rfl, by omega, by simp; omega, fun h => by omega, fun _ => ⟨rfl, e, he, hel⟩, hq, .inr ⟨by simp, rfl, rfl⟩, keq⟩
        · clear hm2
          have hmm : s.size ≤ m := by
            by_cases hA : j < np
            · omega
            · have := hm1 (by omega); omega
          have hq2 : allT s = ([] ++ [⟨0, ⟨#[]⟩, 0, s.size⟩], (s.size : Int), 0) := by rw [hq, List.drop_of_length_le (by omega), scanL_nil]
          refine nx ?_
          refine sq fun _ _ => ?_
          refine cf (hy := ?_)
          refine xt (sg ?_)
          refine lx (g := sg ?_)
          refine nx ?_
          refine sq fun _ _ => ?_
          refine rg (sg ?_)
          refine nx ?_
          refine rt ?_
          refine f3 (g := sg ?_)
          refine ⟨_, _, _, rfl, rfl, rfl, axr3 cTk ([] ++ [⟨0, ⟨#[]⟩, 0, s.size⟩]) ⟨rfl, ?_⟩ (e := 29) (hb := ?_)⟩
          · rw [hq2]
            unfold rT
            rw [if_neg (by simp)]
            rfl
          · rw [List.map_append]
            rfl
      · refine sq fun _ _ => ?_
        refine rg (sg ?_)
        refine ⟨fun hlt => ?_, fun hge => ?_⟩
        · have hat := at_list' hlt
          generalize s.get! j = b at hat
          by_cases hA : (j : Int) < (np : Int)
          · obtain ⟨hm3, e, he, hel⟩ := hm2 (by omega)
            clear hm2
            obtain ⟨hw1, hw2⟩ := dec_to hat (by omega) he hel
            refine nx ?_
            refine sq fun _ _ => ?_
            refine ct (hx := ?_)
            refine sk (sg ?_)
            refine nx ?_
            refine bl ?_
            refine sq fun _ _ => ?_
            refine rg (sg ?_)
            refine nx ?_
            refine sq fun _ _ => ?_
            refine sq fun _ _ => ?_
            refine rg ?_
            simp only [go_sem, Nat.reduceAdd, Nat.reduceSub, Nat.reduceMul, Nat.reduceLT, Nat.reduceLeDiff, Nat.reduceEqDiff, reduceIte, reduceCtorEq, if_true, if_false, Int.reduceEq, Int.reduceLT, Int.reduceLE, Int.reduceAdd, Int.reduceSub, Int.reduceMul, Int.reduceNeg, Int.reduceToNat, decide_true, decide_false, Nat.reduceBEq, hA]
            refine nx ?_
            refine ct (hx := ?_)
            refine xt (sg ?_)
            simp only [undef]
            refine ln (s.size - (j + (Utf8.decode s j).2)) [0, 1] ?_ ?_
            · omega
            exact ⟨j + (Utf8.decode s j).2, np, m, acc, _, _, rfl, hnp, hacc, fun h => by omega, fun _ => ⟨hm3, e, he, hel⟩, hq, .inr ⟨hne, rfl, rfl⟩, keq⟩
          · clear hm2
            obtain rfl := hm1 (by omega)
            clear hm1
            have hd := drop_cons hat
            rw [hd, scanL_cons] at hq
            have hdi := dec_is hat
            have hdb := dec_blk hat
            have hl1 : bsL (s.extract m s.size) = b :: (bsL s).drop (m + 1) := by rw [bsL_cut s m _ (Nat.le_refl _), hd]; exact List.take_of_length_le (by rw [← hd, List.length_drop]; omega)
            have hs1 : (s.extract m s.size).size ≤ 400 := by rw [size_cut s m _ (Nat.le_refl _)]; omega
            have hole := oneL_le (b :: (bsL s).drop (m + 1))
            refine nx ?_
            refine sq fun _ _ => ?_
            refine ct (hx := ?_)
            refine sk (sg ?_)
            refine nx ?_
            refine bl ?_
            refine sq fun _ _ => ?_
            refine rg (sg ?_)
            refine nx ?_
            refine sq fun _ _ => ?_
            refine sq fun _ _ => ?_
            refine rg ?_
            simp only [go_sem, Nat.reduceAdd, Nat.reduceSub, Nat.reduceMul, Nat.reduceLT, Nat.reduceLeDiff, Nat.reduceEqDiff, reduceIte, reduceCtorEq, if_true, if_false, Int.reduceEq, Int.reduceLT, Int.reduceLE, Int.reduceAdd, Int.reduceSub, Int.reduceMul, Int.reduceNeg, Int.reduceToNat, decide_true, decide_false, Nat.reduceBEq, hA]
            refine cl [] (sg ?_)
            refine (c32 _).mono ?_
            rintro r bx ⟨rfl, rfl⟩
            refine sg ?_
            refine nx ?_
            refine cb (fun h3 => ?_) (fun h3 => ?_)
            · have hb1 := hdb.1 h3
              have hw : (Utf8.decode s m).2 = 1 := by rw [dec_low hat (blk_low hb1)]
              rw [if_pos hb1] at hq
              rw [hw]
              refine xt (sg ?_)
              refine ln (s.size - (m + 1)) [0, 1] ?_ ?_
              · omega
              exact ⟨m + 1, np, m + 1, acc, _, _, rfl, hnp, hacc, fun _ => rfl, fun h => by omega, hq, .inr ⟨hne, rfl, rfl⟩, keq⟩
            · rw [if_neg (fun h => h3 (hdb.2 h))] at hq
              refine sk (sg ?_)
              refine nx ?_
              refine sq fun _ _ => ?_
              refine rg (sg ?_)
              refine and_assoc.2 ?_
              refine And.intro (by first | assumption | omega | rfl | trivial) ?_
              refine and_assoc.2 ?_
              refine And.intro (by first | assumption | omega | rfl | trivial) ?_
              refine And.intro (by first | assumption | omega | rfl | trivial) ?_
              refine cl [] (sg ?_)
              refine (c33 _ _ _ _ (by first | assumption | omega | trivial | rfl) (by first | assumption | omega | trivial | rfl) (by first | assumption | omega | trivial | rfl)).mono ?_
              rintro r bx ⟨rfl, t, rfl, ht⟩
              refine sg ?_
              rw [← hd, List.length_drop] at hole
              rw [hd] at hole
              generalize oneL (b :: (bsL s).drop (m + 1)) = o at hq ht hole ⊢
              obtain ⟨⟨k0, s0, n0, a0⟩, n⟩ := o
              dsimp only at hq ht hole ⊢
              refine And.intro (by first | assumption | omega | rfl | trivial) ?_
              refine And.intro (by first | assumption | omega | rfl | trivial) ?_
              refine nx ?_
              refine sq fun _ _ => ?_
              refine sq fun _ _ => ?_
              refine rg (sg ?_)
              refine nx ?_
              refine cb (fun h4 => ?_) (fun h4 => ?_)
              · rw [if_pos (by omega)] at hq
                refine sq fun _ _ => ?_
                refine rg (sg ?_)
                refine nx ?_
                refine rt (sg ?_)
                refine lr (g := sg ?_)
                refine f3 (g := sg ?_)
                refine ⟨_, _, _, rfl, rfl, rfl, ax [] ⟨rfl, ?_⟩⟩
                rw [hq]
                rfl
              · rw [if_neg (by omega)] at hq
                have ht := ht (by omega)
                subst ht
                obtain ⟨hole1, hole2⟩ := hole
                obtain ⟨k1, rfl⟩ : ∃ k1, n = k1 + 1 := ⟨n - 1, by omega⟩
                obtain ⟨e, he⟩ : ∃ e, (bsL s)[m + (k1 + 1) - 1]? = some e := ⟨_, List.getElem?_eq_getElem (by omega)⟩
                have hel := hole2 k1 rfl e (by rw [← hd, List.getElem?_drop, ← he]; rfl)
                obtain ⟨hw1, hw2⟩ := dec_to hat (n := m + (k1 + 1)) (by omega) he hel
                have hwi : IntKind.i64.wrap ((m : Int) + ((k1 + 1 : Nat) : Int)) = ((m + (k1 + 1) : Nat) : Int) := by rw [IntKind.wrap_i64]; omega
                rw [← hd, List.drop_drop] at hq
                refine sk (sg ?_)
                refine nx ?_
                refine sq fun _ _ => ?_
                refine rg (sg ?_)
                refine And.intro (by simp; omega) ?_
                refine nx ?_
                refine sq fun _ _ => ?_
                refine rg (sg ?_)
                refine And.intro (by simp; omega) ?_
                refine And.intro (by first | assumption | omega | rfl | trivial) ?_
                refine And.intro (by first | assumption | omega | rfl | trivial) ?_
                refine And.intro (by first | assumption | omega | rfl | trivial) ?_
                refine And.intro (by first | assumption | omega | rfl | trivial) ?_
                refine And.intro (by simp only [maxLen]; omega) ?_
                refine nx ?_
                refine rg (sg ?_)
                simp only [hwi]
                refine ln (s.size - (m + (Utf8.decode s m).2)) [0, 4] ?_ ?_
                · omega
                exact ⟨m + (Utf8.decode s m).2, m + (k1 + 1), m + (k1 + 1), acc ++ [⟨k0, s0, n0, m⟩], _, _, rfl, by omega, by simp; omega, fun h => by omega, fun _ => ⟨rfl, e, he, hel⟩, hq, .inr ⟨by simp, rfl, by rw [List.map_append]⟩, keq⟩
        · clear hm2
          have hmm : s.size ≤ m := by
            by_cases hA : j < np
            · omega
            · have := hm1 (by omega); omega
          have hq2 : allT s = (acc ++ [⟨0, ⟨#[]⟩, 0, s.size⟩], (s.size : Int), 0) := by rw [hq, List.drop_of_length_le (by omega), scanL_nil]
          refine nx ?_
          refine sq fun _ _ => ?_
          refine cf (hy := ?_)
          refine xt (sg ?_)
          refine lx (g := sg ?_)
          refine nx ?_
          refine sq fun _ _ => ?_
          refine rg (sg ?_)
          refine And.intro (by first | assumption | omega | rfl | trivial) ?_
          refine And.intro (by simp only [maxLen]; omega) ?_
          refine nx ?_
          refine rt ?_
          refine f3 (g := sg ?_)
          refine ⟨_, _, _, rfl, rfl, rfl, axr3 cTk (acc ++ [⟨0, ⟨#[]⟩, 0, s.size⟩]) ⟨rfl, ?_⟩ (e := 29) (hb := ?_)⟩
          · rw [hq2]
            unfold rT
            rw [if_neg (by simp)]
            rfl
          · rw [List.map_append]
            rfl

end Go.Proofs.YthafcbbkjdbomaaDoor.V
