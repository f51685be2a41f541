import Derived.Test.YtdedmhmomoejkaaDoorW10
namespace Go.Proofs.YtdedmhmomoejkaaDoor.V
open Go Go.RowKit Go.Proofs.YtdedmhmomoejkaaDoorW.PrintLast
open Go.Proofs
set_option linter.unusedVariables false
set_option linter.unusedSimpArgs false
attribute [local irreducible] awp
set_option maxRecDepth 100000
theorem scanL_nil (n i : Nat) (acc : List Tk) : scanL n [] i acc = (acc ++ [⟨0, ⟨#[]⟩, 0, n⟩], (n : Int), 0) := by
  rw [scanL]
theorem scanL_cons (n : Nat) (c : UInt8) (r : List UInt8) (i : Nat) (acc : List Tk) : scanL n (c :: r) i acc = if blkC c then scanL n r (i + 1) acc
    else if (oneL (c :: r)).2 = 0 then ([], (i : Int), 2)
    else scanL n ((c :: r).drop (oneL (c :: r)).2) (i + (oneL (c :: r)).2) (acc ++ [⟨(oneL (c :: r)).1.kind, (oneL (c :: r)).1.s, (oneL (c :: r)).1.n, i⟩]) := by
  rw [scanL]
  split
  · rfl
  · split
    · rfl
    · rename_i h
      obtain ⟨k, hk⟩ : ∃ k, (oneL (c :: r)).2 = k + 1 := ⟨_ - 1, (Nat.succ_pred_eq_of_ne_zero h).symm⟩
      rw [hk]
      rfl
/-- Tokens as a row; none: nil. -/
def rT (l : List Tk) : C := if l = [] then .v (.slice none 0 0) else rowA 4 cTk l
/-- The end of a function with three results, the first of which is an own row. -/
theorem axr3 {α : Type} {Q : A → List B → Prop} {σ : St} {id sz n e : Nat} {ls ls2 : List L} {g g2 : Bool} (f : α → List C) (out : List α) (h : Q (.tup [([.c (rowA sz f out)], false), (ls.map (subL σ.bx (pos (σ.ids []))), g), (ls2.map (subL σ.bx (pos (σ.ids []))), g2)]) ((σ.ids []).map fun i => mapB (subL σ.bx (pos (σ.ids []))) (σ.bx.getD i .hid))) (hb : σ.bx[id]? = some (.arr (out.map fun x => lc (f x)) sz e) := by exact rfl) (hn : out.length = n := by first | rfl | omega | (simp; done)) (hp : pos (σ.ids []) id = none := by exact rfl) (hg : σ.good [] := by simp [St.good, St.ids, upto]) : aexit Q σ (.tup [([.own id sz 0 n], false), (ls, g), (ls2, g2)]) := by
  refine ax [] ?_ hg
  have e : mapA (subL σ.bx (pos (σ.ids []))) (.tup [([.own id sz 0 n], false), (ls, g), (ls2, g2)]) = .tup [([.c (rowA sz f out)], false), (ls.map (subL σ.bx (pos (σ.ids []))), g), (ls2.map (subL σ.bx (pos (σ.ids []))), g2)] := by
    simp only [mapA, subL, hp, List.map_cons, List.map_nil, viewR f out hb hn]
  rw [e]
  exact h
set_option maxHeartbeats 8000000 in
theorem c30 (s : ByteArray) : PC Tryd.prog 30 [A.str s] [] (fun r bx => bx = [] ∧ r = .tup [([.c (rT (allT s).1)], false), ([xI (allT s).2.1], false), ([xI (allT s).2.2], false)]) := by
  have hsz := len_bsL s
  refine enter (rs := [.tmp 2, .tmp 3, .tmp 4]) mx Tryd.func30 Tryd.ntmps30 fun Q0 hQ0 => ?_
  refine sq fun _ _ => ?_
  refine rg (sg ?_)
  refine nx ?_
  refine sq fun _ _ => ?_
  refine sq fun _ _ => ?_
  refine rg (sg ?_)
  refine nx ?_
  refine cb (fun h => ?_) (fun h => ?_)
  · have ha : allT s = ([], 0, 3) := if_pos (by omega)
    refine sq fun _ _ => ?_
    refine rg (sg ?_)
    refine nx ?_
    refine rt (sg ?_)
    refine f3 (g := sg ?_)
    refine ⟨_, _, _, rfl, rfl, rfl, ax [] ⟨rfl, ?_⟩⟩
    rw [ha]
    rfl
  · have ha : allT s = scanL s.size (bsL s) 0 [] := if_neg (by omega)
    refine sk (sg ?_)
    refine nx ?_
    refine sq fun _ _ => ?_
    refine rg (sg ?_)
    refine nx ?_
    refine sq fun _ _ => ?_
    refine rg (sg ?_)
    refine nx ?_
    refine sq fun _ _ => ?_
    refine bl ?_
    refine lp [0, 2, 3, 4, 5, 6] [0] (fun k σ => ∃ (i : Nat) (acc : List Tk), k = s.size - i ∧ i ≤ s.size ∧ acc.length ≤ i ∧ allT s = scanL s.size ((bsL s).drop i) i acc ∧ σ = ⟨62, 0, [(0, A.str s), (2, A.one (L.c (C.v (Value.slice none 0 0)))), (3, A.int .i64 0), (4, A.int .i64 0), (5, xOwn 0 4 0 acc.length), (6, A.int .i64 i)], [.arr (acc.map fun x => lc (cTk x)) 4 149]⟩) s.size ?_ ?_
    · exact ⟨0, [], by omega, by omega, by simp, ha, keq⟩
    · rintro k σ' ⟨i, acc, hk, hi, hlen, hq, rfl⟩ Q1 hQ1
      refine sq fun _ _ => ?_
      refine sq fun _ _ => ?_
      refine rg (sg ?_)
      refine nx ?_
      refine cb (fun h2 => ?_) (fun h2 => ?_)
      · have hi2 : i < s.size := by omega
        have hat := at_list' hi2
        have hcg := chr_get s i hi2
        have hd := drop_cons hat
        generalize s.get! i = c at hat hcg hd
        rw [hd, scanL_cons] at hq
        refine sk (sg ?_)
        refine nx ?_
        refine bl ?_
        refine sq fun _ _ => ?_
        refine sq fun _ _ => ?_
        refine rg (sg ?_)
        refine and_assoc.2 ?_
        refine And.intro (by first | assumption | omega | rfl | trivial) ?_
        refine And.intro (by first | assumption | omega | rfl | trivial) ?_
        refine And.intro (by first | assumption | omega | rfl | trivial) ?_
        refine And.intro (by simp; omega) ?_
        refine nx ?_
        simp only [hcg]
        have hbk : blkC c = true ↔ (((c.toNat : Int) = 32 ∨ (c.toNat : Int) = 9) ∨ (c.toNat : Int) = 10) := by
          unfold blkC
          rw [Bool.or_eq_true, Bool.or_eq_true, decide_eq_true_eq, decide_eq_true_eq, decide_eq_true_eq]
          omega
        refine cb (fun h3 => ?_) (fun h3 => ?_)
        · rw [if_pos (hbk.2 h3)] at hq
          refine sq fun _ _ => ?_
          refine rg (sg ?_)
          refine nx ?_
          refine xt (sg ?_)
          simp (disch := omega) only [wrap_succ]
          refine ln (s.size - (i + 1)) [0] ?_ ?_
          · omega
          exact ⟨i + 1, acc, by omega, by omega, by omega, hq, keq⟩
        · rw [if_neg (fun h => h3 (hbk.1 h))] at hq
          have hl1 : bsL (s.extract i s.size) = c :: (bsL s).drop (i + 1) := by rw [bsL_cut s i _ (Nat.le_refl _), hd]; exact List.take_of_length_le (by rw [← hd, List.length_drop]; omega)
          have hs1 : (s.extract i s.size).size ≤ 400 := by rw [size_cut s i _ (Nat.le_refl _)]; omega
          have hole := (oneL_le (c :: (bsL s).drop (i + 1))).1
          rw [← hd, List.length_drop] at hole
          rw [hd] at hole
          refine sk (sg ?_)
          refine nx ?_
          refine sq fun _ _ => ?_
          refine rg (sg ?_)
          refine and_assoc.2 ?_
          refine And.intro (by first | assumption | omega | rfl | trivial) ?_
          refine and_assoc.2 ?_
          refine And.intro (by first | assumption | omega | rfl | trivial) ?_
          refine And.intro (by first | assumption | omega | rfl | trivial) ?_
          refine cl [] (sg ?_)
          refine (c72 _ _ _ (by first | assumption | omega | trivial | rfl) (by first | assumption | omega | trivial | rfl)).mono ?_
          rintro r bx ⟨rfl, t, rfl, ht⟩
          refine sg ?_
          generalize oneL (c :: (bsL s).drop (i + 1)) = o at hq ht hole
          refine And.intro (by first | assumption | omega | rfl | trivial) ?_
          refine And.intro (by first | assumption | omega | rfl | trivial) ?_
          refine nx ?_
          refine sq fun _ _ => ?_
          refine sq fun _ _ => ?_
          refine rg (sg ?_)
          refine nx ?_
          refine cb (fun h4 => ?_) (fun h4 => ?_)
          · rw [if_pos (by omega)] at hq
            refine sq fun _ _ => ?_
            refine rg (sg ?_)
            refine nx ?_
            refine rt (sg ?_)
            refine lr (g := sg ?_)
            refine f3 (g := sg ?_)
            refine ⟨_, _, _, rfl, rfl, rfl, ax [] ⟨rfl, ?_⟩⟩
            rw [hq]
            rfl
          · rw [if_neg (by omega)] at hq
            have ht := ht (by omega)
            subst ht
            obtain ⟨⟨k0, s0, n0, a0⟩, m⟩ := o
            dsimp only at hq hole h4
            have hwi : IntKind.i64.wrap ((i : Int) + (m : Int)) = ((i + m : Nat) : Int) := by rw [IntKind.wrap_i64]; omega
            have hdd : (c :: (bsL s).drop (i + 1)).drop m = (bsL s).drop (i + m) := by rw [← hd, List.drop_drop]
            rw [hdd] at hq
            refine sk (sg ?_)
            refine nx ?_
            refine sq fun _ _ => ?_
            refine rg (sg ?_)
            refine And.intro (by simp; omega) ?_
            refine nx ?_
            refine sq fun _ _ => ?_
            refine rg (sg ?_)
            refine And.intro (by simp; omega) ?_
            refine And.intro (by first | assumption | omega | rfl | trivial) ?_
            refine And.intro (by first | assumption | omega | rfl | trivial) ?_
            refine And.intro (by first | assumption | omega | rfl | trivial) ?_
            refine And.intro (by first | assumption | omega | rfl | trivial) ?_
            refine And.intro (by simp only [maxLen]; omega) ?_
            refine nx ?_
            refine rg (sg ?_)
            simp only [hwi]
            refine ln (s.size - (i + m)) [3] ?_ ?_
            · omega
            exact ⟨i + m, acc ++ [⟨k0, s0, n0, i⟩], by omega, by omega, by simp; omega, hq, keq⟩
      · have hq2 : allT s = (acc ++ [⟨0, ⟨#[]⟩, 0, s.size⟩], (s.size : Int), 0) := by rw [hq, List.drop_of_length_le (by omega), scanL_nil]
        refine xt (sg ?_)
        refine lx (g := sg ?_)
        refine nx ?_
        refine sq fun _ _ => ?_
        refine rg (sg ?_)
        refine And.intro (by first | assumption | omega | rfl | trivial) ?_
        refine And.intro (by simp only [maxLen]; omega) ?_
        refine nx ?_
        refine rt ?_
        refine f3 (g := sg ?_)
        refine ⟨_, _, _, rfl, rfl, rfl, axr3 cTk (acc ++ [⟨0, ⟨#[]⟩, 0, s.size⟩]) ⟨rfl, ?_⟩ (e := 149) (hb := ?_)⟩
        · rw [hq2]
          unfold rT
          rw [if_neg (by simp)]
          rfl
        · rw [List.map_append]
          rfl
theorem c28 (e : Int) : PC Tryd.prog 28 [A.int .i64 e] [] (fun r bx => r = A.int .i64 e ∧ bx = []) := by
  refine enter (rs := [.tmp 2]) mx Tryd.func28 Tryd.ntmps28 fun Q0 hQ0 => ?_
  refine sq fun _ _ => ?_
  refine rg (sg ?_)
  refine nx ?_
  refine sq fun _ _ => ?_
  refine rg (sg ?_)
  refine nx ?_
  refine rt ?_
  refine f1 (g := sg ?_)
  exact ax [] ⟨rfl, rfl⟩
theorem c31n : PC Tryd.prog 31 [.one (.c (.v (.slice none 0 0))), .one (.c (.v (.slice none 0 0)))] [] (fun r bx => r = .bool true ∧ bx = []) := by
  refine enter (rs := [.tmp 4]) mx Tryd.func31 Tryd.ntmps31 fun Q0 hQ0 => ?_
  refine sq fun _ _ => ?_
  refine rg (sg ?_)
  refine nx ?_
  refine sq fun _ _ => ?_
  refine sq fun _ _ => ?_
  refine rg (sg ?_)
  refine nx ?_
  refine cf (hy := ?_)
  refine sk (sg ?_)
  refine nx ?_
  refine sq fun _ _ => ?_
  refine sq fun _ _ => ?_
  refine rg (sg ?_)
  refine nx ?_
  refine bl ?_
  refine lp [0, 1, 4, 5] [] (fun k σ => k = 0 ∧ σ = ⟨67, 0, [(0, A.one (L.c (C.v (Value.slice none 0 0)))), (1, A.one (L.c (C.v (Value.slice none 0 0)))), (4, A.bool false), (5, A.int .i64 0)], []⟩) 0 ?_ ?_
  · exact ⟨rfl, keq⟩
  · rintro k σ' ⟨hk, rfl⟩ Q1 hQ1
    refine sq fun _ _ => ?_
    refine sq fun _ _ => ?_
    refine rg (sg ?_)
    refine nx ?_
    refine cf (hy := ?_)
    refine xt (sg ?_)
    refine lx (g := sg ?_)
    refine nx ?_
    refine sq fun _ _ => ?_
    refine rg (sg ?_)
    refine nx ?_
    refine rt ?_
    refine f1 (g := sg ?_)
    exact ax [] ⟨rfl, rfl⟩
set_option maxHeartbeats 8000000 in
theorem c31r (l : List Tk) (hl : l.length ≤ 1000) : PC Tryd.prog 31 [.one (.c (rowA 4 cTk l)), .one (.c (rowA 4 cTk l))] [] (fun r bx => r = .bool true ∧ bx = []) := by
  refine enter (rs := [.tmp 4]) mx Tryd.func31 Tryd.ntmps31 fun Q0 hQ0 => ?_
  refine sq fun _ _ => ?_
  refine rg (sg ?_)
  refine nx ?_
  refine sq fun _ _ => ?_
  refine sq fun _ _ => ?_
  refine rg (sg ?_)
  refine nx ?_
  refine cf (hy := ?_)
  refine sk (sg ?_)
  refine nx ?_
  refine sq fun _ _ => ?_
  refine sq fun _ _ => ?_
  refine rg (sg ?_)
  refine nx ?_
  refine bl ?_
  refine lp [0, 1, 4, 5] [] (fun k σ => ∃ i : Nat, k = l.length - i ∧ i ≤ l.length ∧ σ = ⟨67, 0, [(0, xRow l.length 4 (elemsOf (List.map cTk l))), (1, xRow l.length 4 (elemsOf (List.map cTk l))), (4, A.bool false), (5, A.int .i64 i)], []⟩) l.length ?_ ?_
  · exact ⟨0, by omega, by omega, keq⟩
  · rintro k σ' ⟨i, hk, hi, rfl⟩ Q1 hQ1
    refine sq fun _ _ => ?_
    refine sq fun _ _ => ?_
    refine rg (sg ?_)
    refine nx ?_
    refine cb (fun h => ?_) (fun h => ?_)
    · have hil : i < l.length := by omega
      have e0 : elemsOf (List.map cTk l) i = el (cTk l[i]) := by rw [elems_lt (by simpa using hil)]; simp
      have e1 : elemsOf (List.map cTk l) i 0 = .v (.int .i64 l[i].kind) := by rw [e0]; rfl
      have e2 : elemsOf (List.map cTk l) i 1 = .v (.string l[i].s) := by rw [e0]; rfl
      have e3 : elemsOf (List.map cTk l) i 2 = .v (.int .i64 l[i].n) := by rw [e0]; rfl
      have e4 : elemsOf (List.map cTk l) i 3 = .v (.int .i64 l[i].at_) := by rw [e0]; rfl
      refine sk (sg ?_)
      refine nx ?_
      refine sq fun _ _ => ?_
      refine bl ?_
      refine sq fun _ _ => ?_
      refine dr [.take 0, .take 1, .take 2, .take 3, .take 4, .take 5, .take 6, .take 7, .take 8, .take 9, .take 10, .take 11, .take 12, .take 13, .take 14, .take 15, .take 16, .take 17, .take 18, .take 19, .take 20, .take 21, .take 22, .take 23, .take 24, .take 25, .take 26, .take 27, .take 28, .take 29, .take 30, .take 31, .take 32, .take 33, .take 34, .take 35, .take 36, .take 37, .take 38, .take 39, .take 40, .take 41, .take 42, .take 43, .take 44, .take 45, .take 46, .take 47, .take 48, .take 49] [] ?_
      simp (config := { maxSteps := 4000000 }) only [go_sem, Nat.reduceAdd, Nat.reduceSub, Nat.reduceMul, Nat.reduceLT, Nat.reduceLeDiff, Nat.reduceEqDiff, reduceIte, reduceCtorEq, if_true, if_false, Int.reduceEq, Int.reduceLT, Int.reduceLE, Int.reduceAdd, Int.reduceSub, Int.reduceMul, Int.reduceNeg, Int.reduceToNat, decide_true, decide_false, Nat.reduceBEq, e1, e2, e3, e4, hil]
      refine and_assoc.2 ?_
      refine And.intro (by first | assumption | omega | rfl | trivial) ?_
      refine And.intro (by first | assumption | omega | rfl | trivial) ?_
      refine and_assoc.2 ?_
      refine And.intro (by first | assumption | omega | rfl | trivial) ?_
      refine And.intro (by first | assumption | omega | rfl | trivial) ?_
      refine and_assoc.2 ?_
      refine And.intro (by first | assumption | omega | rfl | trivial) ?_
      refine And.intro (by first | assumption | omega | rfl | trivial) ?_
      refine and_assoc.2 ?_
      refine And.intro (by first | assumption | omega | rfl | trivial) ?_
      refine And.intro (by first | assumption | omega | rfl | trivial) ?_
      refine and_assoc.2 ?_
      refine And.intro (by first | assumption | omega | rfl | trivial) ?_
      refine And.intro (by first | assumption | omega | rfl | trivial) ?_
      refine and_assoc.2 ?_
      refine And.intro (by first | assumption | omega | rfl | trivial) ?_
      refine And.intro (by first | assumption | omega | rfl | trivial) ?_
      refine and_assoc.2 ?_
      refine And.intro (by first | assumption | omega | rfl | trivial) ?_
      refine And.intro (by first | assumption | omega | rfl | trivial) ?_
      refine and_assoc.2 ?_
      refine And.intro (by first | assumption | omega | rfl | trivial) ?_
      refine And.intro (by first | assumption | omega | rfl | trivial) ?_
      refine nx ?_
      refine cf (hy := ?_)
      refine sk (sg ?_)
      refine nx ?_
      refine rg (sg ?_)
      simp (disch := omega) only [wrap_succ]
      refine ln (l.length - (i + 1)) [] ?_ ?_
      · omega
      exact ⟨i + 1, by omega, by omega, keq⟩
    · refine xt (sg ?_)
      refine lx (g := sg ?_)
      refine nx ?_
      refine sq fun _ _ => ?_
      refine rg (sg ?_)
      refine nx ?_
      refine rt ?_
      refine f1 (g := sg ?_)
      exact ax [] ⟨rfl, rfl⟩

end Go.Proofs.YtdedmhmomoejkaaDoor.V
