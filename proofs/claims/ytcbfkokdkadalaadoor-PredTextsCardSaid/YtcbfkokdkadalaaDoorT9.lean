/- Proved: the tied card of firkinlaw17.PredTexts: for every predicate, type and cell the law returns true, and its inputs read as they did. Conditions: those of the given card (the listed variables of the library read as the program's text lays them), no others. -/
import Derived.Test.YtcbfkokdkadalaaDoorB10
import Derived.Test.YtcbfkokdkadalaaDoorB6
import Derived.Test.YtcbfkokdkadalaaDoorL1
import Derived.Test.YtcbfkokdkadalaaDoorV22
import Derived.Test.YtcbfkokdkadalaaDoorTie
import Derived.Test.YtcbfkokdkadalaaDoorCards
import Derived.WalkKit
import Derived.ProofKit
import Derived.Handy
import Derived.Lay
import Derived.SevenTiedAt
import Derived.Stop.LaidErr
import Derived.Lib.LaidTab
import Derived.Lib.ItoaNum
import Derived.Shelf.Vars
import Derived.Handed
import Derived.Test.YtcbfkokdkadalaaDoorC1
import Derived.ChangeMaps5
import Derived.OpenShut
import Derived.ShutString
import Derived.ChangeOld
import Derived.Carry
namespace Go.Proofs.YtcbfkokdkadalaaDoor.V
open Go Go.RowKit Go.Proofs.YtcbfkokdkadalaaDoorW.PrintLast
open Go.Proofs
set_option linter.unusedVariables false
set_option linter.unusedSimpArgs false
attribute [local irreducible] awp
section
set_option maxRecDepth 100000
/-! The law's own Value; names' rows. -/
theorem c9 (ty : Int) (cn : Bool) (ci : Int) (cs : ByteArray) (h0 : -9223372036854775808 ≤ ci) (h1 : ci ≤ 9223372036854775807) (hs : cs.size ≤ 1000) : PC Tryd.prog 9 [A.int .i64 ty, .agg [xB cn, xI ci, xS cs]] [] (fun r bx => r = A.str (ofL (valS ty ⟨cn, ci, cs⟩)) ∧ bx = []) := by
  refine enter (rs := [.tmp 4]) mx Tryd.func9 Tryd.ntmps9 fun Q0 hQ0 => ?_
  refine sq fun _ _ => ?_
  refine rg (sg ?_)
  refine nx ?_
  refine sq fun _ _ => ?_
  refine bl ?_
  refine sq fun _ _ => ?_
  refine rg (sg ?_)
  refine nx ?_
  refine cb (fun g1 => ?_) (fun g1 => ?_)
  · refine sq fun _ _ => ?_
    refine rg (sg ?_)
    refine nx ?_
    refine rt (sg ?_)
    refine f1 (g := sg ?_)
    exact ax [] ⟨congrArg (fun l => A.str (ofL l)) (by simp [valS, g1]), rfl⟩
  · refine sq fun _ _ => ?_
    refine rg (sg ?_)
    refine nx ?_
    refine cb (fun g2 => ?_) (fun g2 => ?_)
    · refine sq fun _ _ => ?_
      refine rg (sg ?_)
      refine cl [] (sg ?_)
      refine (c19 _ (by first | assumption | omega | trivial | rfl) (by first | assumption | omega | trivial | rfl)).mono ?_
      rintro r bx ⟨rfl, rfl⟩
      refine sg ?_
      refine nx ?_
      refine rt (sg ?_)
      refine f1 (g := sg ?_)
      exact ax [] ⟨congrArg (fun l => A.str (ofL l)) (by simp [valS, g1, g2]), rfl⟩
    · refine sq fun _ _ => ?_
      refine rg (sg ?_)
      refine nx ?_
      refine cb (fun g3 => ?_) (fun g3 => ?_)
      · refine sq fun _ _ => ?_
        refine rg (sg ?_)
        refine cl [] (sg ?_)
        refine (c20 _ (by first | assumption | omega | trivial | rfl)).mono ?_
        rintro r bx ⟨rfl, rfl⟩
        refine sg ?_
        refine nx ?_
        refine rt (sg ?_)
        refine f1 (g := sg ?_)
        exact ax [] ⟨congrArg (fun l => A.str (ofL l)) (by simp [valS, g1, g2, g3]; rfl), rfl⟩
      · refine sq fun _ _ => ?_
        refine rg (sg ?_)
        refine nx ?_
        refine cb (fun g4 => ?_) (fun g4 => ?_)
        · refine sq fun _ _ => ?_
          refine rg (sg ?_)
          refine nx ?_
          refine rt (sg ?_)
          refine f1 (g := sg ?_)
          exact ax [] ⟨congrArg (fun l => A.str (ofL l)) (by simp [valS, g1, g2, g3, g4.1, g4.2]), rfl⟩
        · refine sq fun _ _ => ?_
          refine rg (sg ?_)
          refine nx ?_
          refine cb (fun g5 => ?_) (fun g5 => ?_)
          · have g6 : ci = 0 := Classical.byContradiction fun h => g4 ⟨g5, h⟩
            refine sq fun _ _ => ?_
            refine rg (sg ?_)
            refine nx ?_
            refine rt (sg ?_)
            refine f1 (g := sg ?_)
            exact ax [] ⟨congrArg (fun l => A.str (ofL l)) (by simp [valS, g1, g2, g3, g5, g6]), rfl⟩
          · refine sk (sg ?_)
            refine nx ?_
            refine sq fun _ _ => ?_
            refine rg (sg ?_)
            refine nx ?_
            refine rt ?_
            refine f1 (g := sg ?_)
            exact ax [] ⟨congrArg (fun l => A.str (ofL l)) (by simp [valS, g1, g2, g3, g5]), rfl⟩
theorem c38 (l : List ByteArray) (s : ByteArray) (hl : l.length ≤ 1000) : PC Tryd.prog 38 [xRow l.length 1 (elemsOf (l.map cSt)), A.str s] [] (fun r bx => (∃ k : Int, r = A.int .i64 k ∧ (0 ≤ k ↔ s ∈ l)) ∧ bx = []) := by
  refine enter (rs := [.tmp 4]) mx Tryd.func38 Tryd.ntmps38 fun Q0 hQ0 => ?_
  refine sq fun _ _ => ?_
  refine rg (sg ?_)
  refine nx ?_
  refine sq fun _ _ => ?_
  refine sq fun _ _ => ?_
  refine rg (sg ?_)
  refine nx ?_
  refine bl ?_
  refine lp [0, 1, 7, 8] [] (fun k σ => ∃ i : Nat, k = l.length - i ∧ i ≤ l.length ∧ (∀ (j : Nat) (h : j < l.length), j < i → l[j] ≠ s) ∧ σ = ⟨19, 0, [(0, xRow l.length 1 (elemsOf (List.map cSt l))), (1, A.str s), (7, A.int .i64 l.length), (8, A.int .i64 i)], []⟩) l.length ?_ ?_
  · exact ⟨0, by omega, by omega, fun j h h2 => absurd h2 (Nat.not_lt_zero _), keq⟩
  · rintro k σ' ⟨i, hk, hi, hw, rfl⟩ Q1 hQ1
    refine sq fun _ _ => ?_
    refine rg (sg ?_)
    refine nx ?_
    refine sq fun _ _ => ?_
    refine cb (fun h => ?_) (fun h => ?_)
    · have hin : i < l.length := by omega
      have hwi : IntKind.i64.wrap ((i : Int) + 1) = ((i + 1 : Nat) : Int) := wrap_succ (by omega)
      have he := el_at (f := cSt) hin
      refine sk (sg ?_)
      refine nx ?_
      refine sq fun _ _ => ?_
      refine bl ?_
      refine sq fun _ _ => ?_
      refine rg (sg ?_)
      refine nx ?_
      refine sq fun _ _ => ?_
      refine rg (sg ?_)
      refine and_assoc.2 ?_
      refine And.intro (by first | assumption | omega | rfl | trivial) ?_
      refine And.intro (by first | assumption | omega | rfl | trivial) ?_
      simp (disch := omega) only [el_at]
      refine sg ?_
      refine nx ?_
      refine cb (fun h2 => ?_) (fun h2 => ?_)
      · refine sq fun _ _ => ?_
        refine rg (sg ?_)
        refine nx ?_
        refine rt (sg ?_)
        refine lr (g := sg ?_)
        refine f1 (g := sg ?_)
        exact ax [] ⟨⟨i, rfl, fun _ => h2 ▸ List.getElem_mem hin, fun _ => by omega⟩, rfl⟩
      · have hw2 : ∀ (j : Nat) (h : j < l.length), j < i + 1 → l[j] ≠ s := by
          intro j hj h3
          by_cases hji : j = i
          · subst hji
            exact fun e => h2 e.symm
          · exact hw j hj (by omega)
        refine sk (sg ?_)
        refine nx ?_
        refine rg (sg ?_)
        simp (disch := omega) only [wrap_succ]
        refine ln (l.length - (i + 1)) [] ?_ ?_
        · omega
        exact ⟨i + 1, by omega, by omega, hw2, keq⟩
    · refine xt (sg ?_)
      refine lx (g := sg ?_)
      refine nx ?_
      refine sq fun _ _ => ?_
      refine rg (sg ?_)
      refine nx ?_
      refine rt ?_
      refine f1 (g := sg ?_)
      refine ax [] ⟨⟨-1, rfl, fun h => by omega, fun hx => ?_⟩, rfl⟩
      obtain ⟨j, hj, h3⟩ := List.getElem_of_mem hx
      exact absurd h3 (hw j hj (by omega))
theorem c25 (l : List ByteArray) (s : ByteArray) (hl : l.length ≤ 1000) : PC Tryd.prog 25 [xRow l.length 1 (elemsOf (l.map cSt)), A.str s] [] (fun r bx => r = A.bool (l.any fun x => decide (x = s)) ∧ bx = []) := by
  refine enter (rs := [.tmp 4]) mx Tryd.func25 Tryd.ntmps25 fun Q0 hQ0 => ?_
  refine sq fun _ _ => ?_
  refine rg (sg ?_)
  refine nx ?_
  refine sq fun _ _ => ?_
  refine rg (sg ?_)
  refine cl [] (sg ?_)
  refine (c38 _ _ (by first | assumption | omega | trivial | rfl)).mono ?_
  rintro r bx ⟨⟨n, rfl, hn⟩, rfl⟩
  refine sg ?_
  refine nx ?_
  refine rt ?_
  refine f1 (g := sg ?_)
  refine ax [] ⟨congrArg A.bool ?_, rfl⟩
  rw [Bool.eq_iff_iff, decide_eq_true_eq, List.any_eq_true, hn]
  simp
end
section
set_option maxRecDepth 100000
/-! Names' rows: are two the same; the columns in a predicate. -/
theorem c11 (l m : List ByteArray) (hl : l.length ≤ 1000) (hm : m.length ≤ 1000) : PC Tryd.prog 11 [xRow l.length 1 (elemsOf (l.map cSt)), xRow m.length 1 (elemsOf (m.map cSt))] [] (fun r bx => r = A.bool (decide (l = m)) ∧ bx = []) := by
  refine enter (rs := [.tmp 4]) mx Tryd.func11 Tryd.ntmps11 fun Q0 hQ0 => ?_
  refine sq fun _ _ => ?_
  refine rg (sg ?_)
  refine nx ?_
  refine sq fun _ _ => ?_
  refine sq fun _ _ => ?_
  refine rg (sg ?_)
  refine nx ?_
  refine cb (fun h0 => ?_) (fun h0 => ?_)
  · refine sq fun _ _ => ?_
    refine rg (sg ?_)
    refine nx ?_
    refine rt (sg ?_)
    refine f1 (g := sg ?_)
    exact ax [] ⟨congrArg A.bool (decide_eq_false fun h => h0 (by rw [h])).symm, rfl⟩
  · have hlm : l.length = m.length := by omega
    refine sk (sg ?_)
    refine nx ?_
    refine sq fun _ _ => ?_
    refine sq fun _ _ => ?_
    refine rg (sg ?_)
    refine nx ?_
    refine bl ?_
    refine lp [0, 1, 5] [] (fun k σ => ∃ i : Nat, k = l.length - i ∧ i ≤ l.length ∧ (∀ (j : Nat) (h1 : j < l.length) (h2 : j < m.length), j < i → l[j] = m[j]) ∧ σ = ⟨26, 0, [(0, xRow l.length 1 (elemsOf (List.map cSt l))), (1, xRow m.length 1 (elemsOf (List.map cSt m))), (5, A.int .i64 i)], []⟩) l.length ?_ ?_
    · exact ⟨0, by omega, by omega, fun j h h2 h3 => absurd h3 (Nat.not_lt_zero _), keq⟩
    · rintro k σ' ⟨i, hk, hi, hw, rfl⟩ Q1 hQ1
      refine sq fun _ _ => ?_
      refine sq fun _ _ => ?_
      refine rg (sg ?_)
      refine nx ?_
      refine cb (fun h => ?_) (fun h => ?_)
      · have hin : i < l.length := by omega
        have him : i < m.length := by omega
        have hwi : IntKind.i64.wrap ((i : Int) + 1) = ((i + 1 : Nat) : Int) := wrap_succ (by omega)
        have he := el_at (f := cSt) hin
        have he2 := el_at (f := cSt) him
        refine sk (sg ?_)
        refine nx ?_
        refine sq fun _ _ => ?_
        refine bl ?_
        refine sq fun _ _ => ?_
        refine dr [.take 0, .take 1, .take 2, .take 3, .take 4, .take 5, .take 6, .take 7, .take 8] [] (sg ?_)
        refine and_assoc.2 ?_
        refine And.intro (by first | assumption | omega | rfl | trivial) ?_
        refine And.intro (by first | assumption | omega | rfl | trivial) ?_
        refine and_assoc.2 ?_
        refine And.intro (by first | assumption | omega | rfl | trivial) ?_
        refine And.intro (by first | assumption | omega | rfl | trivial) ?_
        simp (disch := omega) only [el_at]
        refine sg ?_
        refine nx ?_
        refine cb (fun h2 => ?_) (fun h2 => ?_)
        · have hne : l ≠ m := fun e => h2 (by subst e; rfl)
          refine sq fun _ _ => ?_
          refine rg (sg ?_)
          refine nx ?_
          refine rt (sg ?_)
          refine lr (g := sg ?_)
          refine f1 (g := sg ?_)
          exact ax [] ⟨congrArg A.bool (decide_eq_false hne).symm, rfl⟩
        · have h3 : l[i] = m[i] := Classical.byContradiction fun h => h2 h
          have hw2 : ∀ (j : Nat) (h1 : j < l.length) (h2 : j < m.length), j < i + 1 → l[j] = m[j] := by
            intro j h1 h2 h4
            by_cases hji : j = i
            · subst hji
              exact h3
            · exact hw j h1 h2 (by omega)
          refine sk (sg ?_)
          refine nx ?_
          refine rg (sg ?_)
          simp (disch := omega) only [wrap_succ]
          refine ln (l.length - (i + 1)) [] ?_ ?_
          · omega
          exact ⟨i + 1, by omega, by omega, hw2, keq⟩
      · have hall : l = m := List.ext_getElem hlm fun j h1 h2 => hw j h1 h2 (by omega)
        refine xt (sg ?_)
        refine lx (g := sg ?_)
        refine nx ?_
        refine sq fun _ _ => ?_
        refine rg (sg ?_)
        refine nx ?_
        refine rt ?_
        refine f1 (g := sg ?_)
        exact ax [] ⟨congrArg A.bool (decide_eq_true hall).symm, rfl⟩
end
section
set_option maxRecDepth 100000
/-! The columns in a predicate, in order, each once. -/
def addC (l : List ByteArray) (c : ByteArray) : List ByteArray := if c ≠ e0 ∧ (l.any fun x => decide (x = c)) = false then l ++ [c] else l
mutual
def colsP : Pr → List ByteArray → List ByteArray
  | .mk _ c _ _ _ _ ks, l => colsL ks (addC l c)
def colsL : List Pr → List ByteArray → List ByteArray
  | [], l => l
  | k :: r, l => colsL r (colsP k l)
end
theorem colsP_eq (p : Pr) (l : List ByteArray) : colsP p l = colsL p.kids (addC l p.col) := by
  obtain ⟨o, c, m, v, k, pt, ks⟩ := p
  rw [colsP]
  rfl
theorem colsL_cons (k : Pr) (r : List Pr) (l : List ByteArray) : colsL (k :: r) l = colsL r (colsP k l) := by rw [colsL]
theorem colsL_nil (l : List ByteArray) : colsL [] l = l := by rw [colsL]
theorem any_mem (l : List ByteArray) (c : ByteArray) : (l.any fun x => decide (x = c)) = true ↔ c ∈ l := by
  rw [List.any_eq_true]
  simp
theorem addC_no {l : List ByteArray} {c : ByteArray} (h : ¬ (c ≠ e0 ∧ ¬ c ∈ l)) : addC l c = l := by
  unfold addC
  refine if_neg fun h2 => h ⟨h2.1, fun h3 => ?_⟩
  rw [(any_mem l c).2 h3] at h2
  exact absurd h2.2 (by decide)
theorem addC_yes {l : List ByteArray} {c : ByteArray} (h : c ≠ e0 ∧ ¬ c ∈ l) : addC l c = l ++ [c] := by
  unfold addC
  refine if_pos ⟨h.1, ?_⟩
  cases h3 : l.any fun x => decide (x = c)
  · rfl
  · exact absurd ((any_mem l c).1 h3) h.2
theorem addC_len (l : List ByteArray) (c : ByteArray) : (addC l c).length ≤ l.length + 1 := by
  unfold addC
  split <;> simp
theorem addC_ge (l : List ByteArray) (c : ByteArray) : l.length ≤ (addC l c).length := by
  unfold addC
  split <;> simp
theorem colsL_len (m : Nat) : ∀ (ks : List Pr), (∀ k ∈ ks, ∀ l, (colsP k l).length ≤ l.length + k.cnt ∧ l.length ≤ (colsP k l).length) → ∀ l, (colsL ks l).length ≤ l.length + cnts ks ∧ l.length ≤ (colsL ks l).length
  | [], _, l => by rw [colsL_nil]; simp [cnts]
  | k :: r, h, l => by
    rw [colsL_cons]
    have h1 := h k (by simp) l
    have h2 := colsL_len m r (fun x hx => h x (by simp [hx])) (colsP k l)
    simp only [cnts]
    omega
theorem colsP_len : ∀ (p : Pr) (l : List ByteArray), (colsP p l).length ≤ l.length + p.cnt ∧ l.length ≤ (colsP p l).length := by
  refine Pr.by_kids fun p ih l => ?_
  rw [colsP_eq]
  have h1 := addC_len l p.col
  have h2 := addC_ge l p.col
  have h3 := colsL_len 0 p.kids (fun k hk => ih k hk) (addC l p.col)
  have h4 := cnt_eq p
  omega
theorem lc_sub (x : List C) (bx : List B) (ρ : Nat → Option Nat) : (lc x).map (subL bx ρ) = lc x := by
  unfold lc
  rw [List.map_map]
  rfl
theorem arr_sub {α : Type} (l : List α) (f : α → List C) (bx : List B) (ρ : Nat → Option Nat) (sz : Nat) (t : TypeId) : mapB (subL bx ρ) (.arr (l.map fun x => lc (f x)) sz t) = .arr (l.map fun x => lc (f x)) sz t := by
  show B.arr ((l.map fun x => lc (f x)).map fun e => e.map (subL bx ρ)) sz t = _
  rw [List.map_map]
  congr 1
  exact List.map_congr_left fun x _ => lc_sub (f x) bx ρ
theorem arr_sub1 (x : List C) (bx : List B) (ρ : Nat → Option Nat) (sz : Nat) (t : TypeId) : mapB (subL bx ρ) (.arr [lc x] sz t) = .arr [lc x] sz t := arr_sub [x] (fun x => x) bx ρ sz t
theorem own_at {α : Type} {l : List α} {i : Nat} (f : α → List C) (h : i < l.length) : (l.map fun x => lc (f x)).getD i [] = lc (f l[i]) := by
  rw [List.getD_eq_getElem?_getD, List.getElem?_map, List.getElem?_eq_getElem h]
  rfl
theorem c38o (l : List ByteArray) (s : ByteArray) (hl : l.length ≤ 1000) : PC Tryd.prog 38 [xOwn 0 1 0 l.length, A.str s] [.arr (l.map fun x => lc (cSt x)) 1 9] (fun r bx => (∃ k : Int, r = A.int .i64 k ∧ (0 ≤ k ↔ s ∈ l)) ∧ bx = [.arr (l.map fun x => lc (cSt x)) 1 9]) := by
  refine enter (rs := [.tmp 4]) mx Tryd.func38 Tryd.ntmps38 fun Q0 hQ0 => ?_
  refine sq fun _ _ => ?_
  refine rg (sg ?_)
  refine nx ?_
  refine sq fun _ _ => ?_
  refine sq fun _ _ => ?_
  refine rg (sg ?_)
  refine nx ?_
  refine bl ?_
  refine lp [0, 1, 7, 8] [] (fun k σ => ∃ i : Nat, k = l.length - i ∧ i ≤ l.length ∧ (∀ (j : Nat) (h : j < l.length), j < i → l[j] ≠ s) ∧ σ = ⟨19, 1, [(0, xOwn 0 1 0 l.length), (1, A.str s), (7, A.int .i64 l.length), (8, A.int .i64 i)], [.arr (l.map fun x => lc (cSt x)) 1 9]⟩) l.length ?_ ?_
  · exact ⟨0, by omega, by omega, fun j h h2 => absurd h2 (Nat.not_lt_zero _), keq⟩
  · rintro k σ' ⟨i, hk, hi, hw, rfl⟩ Q1 hQ1
    refine sq fun _ _ => ?_
    refine rg (sg ?_)
    refine nx ?_
    refine sq fun _ _ => ?_
    refine cb (fun h => ?_) (fun h => ?_)
    · have hin : i < l.length := by omega
      have hwi : IntKind.i64.wrap ((i : Int) + 1) = ((i + 1 : Nat) : Int) := wrap_succ (by omega)
      have he : (l.map fun x => lc (cSt x)).getD i [] = [xS l[i]] := own_at (l := l) cSt hin
      refine sk (sg ?_)
      refine nx ?_
      refine sq fun _ _ => ?_
      refine bl ?_
      refine sq fun _ _ => ?_
      refine rg (sg ?_)
      refine nx ?_
      refine sq fun _ _ => ?_
      refine rg (sg ?_)
      refine and_assoc.2 ?_
      refine And.intro (by first | assumption | omega | rfl | trivial) ?_
      refine And.intro (by first | assumption | omega | rfl | trivial) ?_
      refine And.intro (by first | assumption | omega | rfl | trivial) ?_
      simp only [go_sem, Nat.reduceAdd, Nat.reduceSub, Nat.reduceMul, Nat.reduceLT, Nat.reduceLeDiff, Nat.reduceEqDiff, reduceIte, reduceCtorEq, if_true, if_false, Int.reduceEq, Int.reduceLT, Int.reduceLE, Int.reduceAdd, Int.reduceSub, Int.reduceMul, Int.reduceNeg, Int.reduceToNat, decide_true, decide_false, Nat.reduceBEq, he, List.take_succ_cons, List.take_zero, List.headD_cons]
      refine nx ?_
      refine cb (fun h2 => ?_) (fun h2 => ?_)
      · refine sq fun _ _ => ?_
        refine rg (sg ?_)
        refine nx ?_
        refine rt (sg ?_)
        refine lr (g := sg ?_)
        refine f1 (g := sg ?_)
        refine ax [] ⟨⟨i, rfl, fun _ => h2 ▸ List.getElem_mem hin, fun _ => by omega⟩, ?_⟩
        simp only [go_sem, Nat.reduceAdd, Nat.reduceSub, Nat.reduceMul, Nat.reduceLT, Nat.reduceLeDiff, Nat.reduceEqDiff, reduceIte, reduceCtorEq, if_true, if_false, Int.reduceEq, Int.reduceLT, Int.reduceLE, Int.reduceAdd, Int.reduceSub, Int.reduceMul, Int.reduceNeg, Int.reduceToNat, decide_true, decide_false, Nat.reduceBEq, St.ids, upto, arr_sub]
      · have hw2 : ∀ (j : Nat) (h : j < l.length), j < i + 1 → l[j] ≠ s := by
          intro j hj h3
          by_cases hji : j = i
          · subst hji
            exact fun e => h2 e.symm
          · exact hw j hj (by omega)
        refine sk (sg ?_)
        refine nx ?_
        refine rg (sg ?_)
        simp (disch := omega) only [wrap_succ]
        refine ln (l.length - (i + 1)) [] ?_ ?_
        · omega
        refine ⟨i + 1, by omega, by omega, hw2, ?_⟩
        simp only [go_sem, Nat.reduceAdd, Nat.reduceSub, Nat.reduceMul, Nat.reduceLT, Nat.reduceLeDiff, Nat.reduceEqDiff, reduceIte, reduceCtorEq, if_true, if_false, Int.reduceEq, Int.reduceLT, Int.reduceLE, Int.reduceAdd, Int.reduceSub, Int.reduceMul, Int.reduceNeg, Int.reduceToNat, decide_true, decide_false, Nat.reduceBEq, St.ids, upto, arr_sub, hwi]
    · refine xt (sg ?_)
      refine lx (g := sg ?_)
      refine nx ?_
      refine sq fun _ _ => ?_
      refine rg (sg ?_)
      refine nx ?_
      refine rt ?_
      refine f1 (g := sg ?_)
      refine ax [] ⟨⟨-1, rfl, fun h => by omega, fun hx => ?_⟩, ?_⟩
      · obtain ⟨j, hj, h3⟩ := List.getElem_of_mem hx
        exact absurd h3 (hw j hj (by omega))
      · simp only [go_sem, Nat.reduceAdd, Nat.reduceSub, Nat.reduceMul, Nat.reduceLT, Nat.reduceLeDiff, Nat.reduceEqDiff, reduceIte, reduceCtorEq, if_true, if_false, Int.reduceEq, Int.reduceLT, Int.reduceLE, Int.reduceAdd, Int.reduceSub, Int.reduceMul, Int.reduceNeg, Int.reduceToNat, decide_true, decide_false, Nat.reduceBEq, St.ids, upto, arr_sub]
theorem c25o (l : List ByteArray) (s : ByteArray) (hl : l.length ≤ 1000) : PC Tryd.prog 25 [xOwn 0 1 0 l.length, A.str s] [.arr (l.map fun x => lc (cSt x)) 1 9] (fun r bx => r = A.bool (l.any fun x => decide (x = s)) ∧ bx = [.arr (l.map fun x => lc (cSt x)) 1 9]) := by
  refine enter (rs := [.tmp 4]) mx Tryd.func25 Tryd.ntmps25 fun Q0 hQ0 => ?_
  refine sq fun _ _ => ?_
  refine rg (sg ?_)
  refine nx ?_
  refine sq fun _ _ => ?_
  refine rg (sg ?_)
  refine cl [0] (sg ?_)
  refine (c38o l s hl).mono ?_
  rintro r bx ⟨⟨n, rfl, hn⟩, rfl⟩
  refine sg ?_
  refine nx ?_
  refine rt ?_
  refine f1 (g := sg ?_)
  refine ax [] ⟨congrArg A.bool ?_, ?_⟩
  · rw [Bool.eq_iff_iff, decide_eq_true_eq, any_mem, hn]
  · simp only [go_sem, Nat.reduceAdd, Nat.reduceSub, Nat.reduceMul, Nat.reduceLT, Nat.reduceLeDiff, Nat.reduceEqDiff, reduceIte, reduceCtorEq, if_true, if_false, Int.reduceEq, Int.reduceLT, Int.reduceLE, Int.reduceAdd, Int.reduceSub, Int.reduceMul, Int.reduceNeg, Int.reduceToNat, decide_true, decide_false, Nat.reduceBEq, St.ids, upto, arr_sub]
theorem c25n (s : ByteArray) : PC Tryd.prog 25 [.one (.c (.v (.slice none 0 0))), A.str s] [] (fun r bx => r = A.bool false ∧ bx = []) :=
  PC.le (c25 [] s (by simp))
/-- What a captured row of names is: nil, or an own row. -/
theorem c24n (p : Pr) (hc : p.col.size ≤ 1000) : PC Tryd.prog 24 [aPr p, xPtr 0 0] [.var [.c (.v (.slice none 0 0))] 33] (fun r bx => r = .bool true ∧ ((addC [] p.col = [] ∧ bx = [.var [.c (.v (.slice none 0 0))] 33]) ∨ (bx = [.var [.own 1 1 0 (addC [] p.col).length] 33, .arr ((addC [] p.col).map fun x => lc (cSt x)) 1 9]))) := by
  refine enter (rs := [.tmp 3]) mx Tryd.func24 Tryd.ntmps24 fun Q0 hQ0 => ?_
  refine sq fun _ _ => ?_
  refine rg (sg ?_)
  refine nx ?_
  refine sq fun _ _ => ?_
  refine sq fun _ _ => ?_
  by_cases h1 : p.col = e0
  · have hA : addC [] p.col = [] := addC_no fun h => h.1 h1
    refine rg ?_
    simp only [go_sem, Nat.reduceAdd, Nat.reduceSub, Nat.reduceMul, Nat.reduceLT, Nat.reduceLeDiff, Nat.reduceEqDiff, reduceIte, reduceCtorEq, if_true, if_false, Int.reduceEq, Int.reduceLT, Int.reduceLE, Int.reduceAdd, Int.reduceSub, Int.reduceMul, Int.reduceNeg, Int.reduceToNat, decide_true, decide_false, Nat.reduceBEq, h1]
    refine nx ?_
    refine cf (hy := ?_)
    refine sk (sg ?_)
    refine nx ?_
    refine sq fun _ _ => ?_
    refine rg (sg ?_)
    refine nx ?_
    refine rt ?_
    refine f1 (g := sg ?_)
    exact ax [] ⟨rfl, .inl ⟨hA, rfl⟩⟩
  · have hA : addC [] p.col = [p.col] := addC_yes ⟨h1, by simp⟩
    refine rgs 4 ?_
    simp only [go_sem, Nat.reduceAdd, Nat.reduceSub, Nat.reduceMul, Nat.reduceLT, Nat.reduceLeDiff, Nat.reduceEqDiff, reduceIte, reduceCtorEq, if_true, if_false, Int.reduceEq, Int.reduceLT, Int.reduceLE, Int.reduceAdd, Int.reduceSub, Int.reduceMul, Int.reduceNeg, Int.reduceToNat, decide_true, decide_false, Nat.reduceBEq, h1, List.take_succ_cons, List.take_zero, List.drop_succ_cons, List.drop_zero]
    refine hr 4 (sgt ?_)
    refine cl [] (sg ?_)
    refine (c25n p.col).mono ?_
    rintro r bx ⟨rfl, rfl⟩
    refine sg ?_
    refine hrl (sg ?_)
    refine nx ?_
    refine ct (hx := ?_)
    refine rg (sg ?_)
    refine nx ?_
    refine sq fun _ _ => ?_
    refine rg (sg ?_)
    refine nx ?_
    refine rt ?_
    refine f1 (g := sg ?_)
    refine ax [3] ⟨rfl, .inr ?_⟩
    rw [hA]
    rfl
theorem c24o (p : Pr) (l : List ByteArray) (hc : p.col.size ≤ 1000) (hl : l.length ≤ 900) : PC Tryd.prog 24 [aPr p, xPtr 0 0] [.var [.own 1 1 0 l.length] 33, .arr (l.map fun x => lc (cSt x)) 1 9] (fun r bx => r = .bool true ∧ ((addC l p.col = l ∧ bx = [.var [.own 1 1 0 l.length] 33, .arr (l.map fun x => lc (cSt x)) 1 9]) ∨ (bx = [.var [.own 2 1 0 (addC l p.col).length] 33, .hid, .arr ((addC l p.col).map fun x => lc (cSt x)) 1 9]))) := by
  refine enter (rs := [.tmp 3]) mx Tryd.func24 Tryd.ntmps24 fun Q0 hQ0 => ?_
  refine sq fun _ _ => ?_
  refine rg (sg ?_)
  refine nx ?_
  refine sq fun _ _ => ?_
  refine sq fun _ _ => ?_
  by_cases h1 : p.col = e0
  · have hA : addC l p.col = l := addC_no fun h => h.1 h1
    refine rg ?_
    simp only [go_sem, Nat.reduceAdd, Nat.reduceSub, Nat.reduceMul, Nat.reduceLT, Nat.reduceLeDiff, Nat.reduceEqDiff, reduceIte, reduceCtorEq, if_true, if_false, Int.reduceEq, Int.reduceLT, Int.reduceLE, Int.reduceAdd, Int.reduceSub, Int.reduceMul, Int.reduceNeg, Int.reduceToNat, decide_true, decide_false, Nat.reduceBEq, h1]
    refine nx ?_
    refine cf (hy := ?_)
    refine sk (sg ?_)
    refine nx ?_
    refine sq fun _ _ => ?_
    refine rg (sg ?_)
    refine nx ?_
    refine rt ?_
    refine f1 (g := sg ?_)
    refine ax [] ⟨rfl, .inl ⟨hA, ?_⟩⟩
    simp only [go_sem, Nat.reduceAdd, Nat.reduceSub, Nat.reduceMul, Nat.reduceLT, Nat.reduceLeDiff, Nat.reduceEqDiff, reduceIte, reduceCtorEq, if_true, if_false, Int.reduceEq, Int.reduceLT, Int.reduceLE, Int.reduceAdd, Int.reduceSub, Int.reduceMul, Int.reduceNeg, Int.reduceToNat, decide_true, decide_false, Nat.reduceBEq, St.ids, upto, arr_sub]
  · refine rgs 4 ?_
    simp only [go_sem, Nat.reduceAdd, Nat.reduceSub, Nat.reduceMul, Nat.reduceLT, Nat.reduceLeDiff, Nat.reduceEqDiff, reduceIte, reduceCtorEq, if_true, if_false, Int.reduceEq, Int.reduceLT, Int.reduceLE, Int.reduceAdd, Int.reduceSub, Int.reduceMul, Int.reduceNeg, Int.reduceToNat, decide_true, decide_false, Nat.reduceBEq, h1, List.take_succ_cons, List.take_zero, List.drop_succ_cons, List.drop_zero]
    refine hr 4 (sgt ?_)
    refine cl [1] (sg ?_)
    refine (c25o l p.col (by omega)).mono ?_
    rintro r bx ⟨rfl, rfl⟩
    refine sg ?_
    by_cases h2 : p.col ∈ l
    · have hA : addC l p.col = l := addC_no fun h => h.2 h2
      have h3 := (any_mem l p.col).2 h2
      rw [h3]
      refine hrl (sg ?_)
      refine nx ?_
      refine cf (hy := ?_)
      refine sk (sg ?_)
      refine nx ?_
      refine sq fun _ _ => ?_
      refine rg (sg ?_)
      refine nx ?_
      refine rt ?_
      refine f1 (g := sg ?_)
      refine ax [] ⟨rfl, .inl ⟨hA, ?_⟩⟩
      simp only [go_sem, Nat.reduceAdd, Nat.reduceSub, Nat.reduceMul, Nat.reduceLT, Nat.reduceLeDiff, Nat.reduceEqDiff, reduceIte, reduceCtorEq, if_true, if_false, Int.reduceEq, Int.reduceLT, Int.reduceLE, Int.reduceAdd, Int.reduceSub, Int.reduceMul, Int.reduceNeg, Int.reduceToNat, decide_true, decide_false, Nat.reduceBEq, St.ids, upto, arr_sub]
    · have hA : addC l p.col = l ++ [p.col] := addC_yes ⟨h1, h2⟩
      have h3 : (l.any fun x => decide (x = p.col)) = false := by rw [← Bool.not_eq_true, any_mem]; exact h2
      rw [h3]
      refine hrl (sg ?_)
      refine nx ?_
      refine ct (hx := ?_)
      refine rg (sg ?_)
      refine And.intro (by first | assumption | omega | rfl | trivial) ?_
      refine And.intro (by simp only [maxLen]; omega) ?_
      refine nx ?_
      refine sq fun _ _ => ?_
      refine rg (sg ?_)
      refine nx ?_
      refine rt ?_
      refine f1 (g := sg ?_)
      refine ax [4] ⟨rfl, .inr ?_⟩
      have hE : List.map (fun x => lc (cSt x)) l ++ [[xS p.col]] = List.map (fun x => lc (cSt x)) (l ++ [p.col]) := by simp [lc, cSt]
      simp only [go_sem, Nat.reduceAdd, Nat.reduceSub, Nat.reduceMul, Nat.reduceLT, Nat.reduceLeDiff, Nat.reduceEqDiff, reduceIte, reduceCtorEq, if_true, if_false, Int.reduceEq, Int.reduceLT, Int.reduceLE, Int.reduceAdd, Int.reduceSub, Int.reduceMul, Int.reduceNeg, Int.reduceToNat, decide_true, decide_false, Nat.reduceBEq, hA, hE, St.ids, upto, arr_sub, lc_sub, List.length_append, List.map_append, List.map_cons, List.map_nil]
end
section
set_option maxRecDepth 100000
/-! The columns in a predicate: how the program goes through it. -/
abbrev vN : B := .var [.c (.v (.slice none 0 0))] 33
abbrev vO (j n : Nat) : B := .var [.own j 1 0 n] 33
abbrev arS (l : List ByteArray) : B := .arr (l.map fun x => lc (cSt x)) 1 9
theorem deps_kid {l : List Pr} {d : Nat} (h : deps l ≤ d) : ∀ x ∈ l, x.dep ≤ d := by
  induction l with
  | nil => intro x hx; cases hx
  | cons a r ih =>
    intro x hx
    simp only [deps] at h
    rcases List.mem_cons.1 hx with rfl | hx
    · omega
    · exact ih (by omega) x hx
theorem c23co (d : Nat) : ∀ (p : Pr) (l : List ByteArray), Sm p → p.dep ≤ d → d ≤ 100 → l.length + p.cnt ≤ 500 → PC Tryd.prog 23 [aPr p, A.int .i64 d, .one (.fn 24 [0])] [vO 1 l.length, arS l] (fun r bx => r = A.bool true ∧ ((colsP p l = l ∧ bx = [vO 1 l.length, arS l]) ∨ bx = [vO 2 (colsP p l).length, .hid, arS (colsP p l)])) := by
  induction d with
  | zero =>
    intro p l hp hd
    have := dep_eq p
    omega
  | succ d ih =>
    intro p l hp hdp hd hcn
    have hlen := hp.len
    have hcol := hp.col
    have hde := dep_eq p
    have hce := cnt_eq p
    have hd1 : ¬ (((d + 1 : Nat) : Int) < 1) := by omega
    have hc1 : p.col.size ≤ 1000 := by omega
    have hl1 : p.kids.length ≤ 1000 := by omega
    have hwd : IntKind.i64.wrap (((d + 1 : Nat) : Int) - 1) = (d : Int) := by rw [IntKind.wrap_i64]; omega
    have hcE : colsP p l = colsL (p.kids.drop 0) (addC l p.col) := colsP_eq p l
    have hcl : (addC l p.col).length + cnts (p.kids.drop 0) ≤ 500 := by
      have := addC_len l p.col
      rw [List.drop_zero]
      omega
    refine enter (rs := [.tmp 6]) mx Tryd.func23 Tryd.ntmps23 fun Q0 hQ0 => ?_
    refine sq fun _ _ => ?_
    refine rg (sg ?_)
    refine nx ?_
    refine sq fun _ _ => ?_
    refine sq fun _ _ => ?_
    refine rgs 6 ?_
    simp only [go_sem, Nat.reduceAdd, Nat.reduceSub, Nat.reduceMul, Nat.reduceLT, Nat.reduceLeDiff, Nat.reduceEqDiff, reduceIte, reduceCtorEq, if_true, if_false, Int.reduceEq, Int.reduceLT, Int.reduceLE, Int.reduceAdd, Int.reduceSub, Int.reduceMul, Int.reduceNeg, Int.reduceToNat, decide_true, decide_false, Nat.reduceBEq, hd1, List.take_succ_cons, List.take_zero, List.drop_succ_cons, List.drop_zero]
    refine cl [0, 1] (sg ?_)
    refine (c24o p l hc1 (by omega)).mono ?_
    rintro r bx ⟨rfl, ⟨hA, rfl⟩ | rfl⟩
    · refine sg ?_
      rw [hA] at hcE hcl
      refine hrl (sg ?_)
      refine nx ?_
      refine cf (hy := ?_)
      refine sk (sg ?_)
      refine nx ?_
      refine sq fun _ _ => ?_
      refine sq fun _ _ => ?_
      refine rg (sg ?_)
      refine nx ?_
      refine bl ?_
      refine lp [1, 2, 18, 19, 20] [] (fun k σ => ∃ (i : Nat) (l' : List ByteArray) (x : B) (X : List B), k = p.kids.length - i ∧ i ≤ p.kids.length ∧ colsP p l = colsL (p.kids.drop i) l' ∧ l'.length + cnts (p.kids.drop i) ≤ 500 ∧ ((l' = l ∧ x = vO 1 l.length ∧ X = [arS l]) ∨ (x = vO 2 l'.length ∧ X = [.hid, arS l'])) ∧ σ = ⟨31, 2, [(1, A.int .i64 ((d + 1 : Nat) : Int)), (2, A.one (L.fn 24 [0])), (18, xRow p.kids.length 9 (elemsOf (List.map cPr p.kids))), (19, A.int .i64 p.kids.length), (20, A.int .i64 i)], x :: X⟩) p.kids.length ?_ ?_
      · refine ⟨0, l, _, _, by omega, by omega, hcE, hcl, .inl ⟨rfl, rfl, rfl⟩, ?_⟩
        simp only [go_sem, Nat.reduceAdd, Nat.reduceSub, Nat.reduceMul, Nat.reduceLT, Nat.reduceLeDiff, Nat.reduceEqDiff, reduceIte, reduceCtorEq, if_true, if_false, Int.reduceEq, Int.reduceLT, Int.reduceLE, Int.reduceAdd, Int.reduceSub, Int.reduceMul, Int.reduceNeg, Int.reduceToNat, decide_true, decide_false, Nat.reduceBEq, St.ids, upto, arr_sub]
      · rintro k σ' ⟨i, l', x, X, hk, hi, hev, hll, hX, rfl⟩ Q1 hQ1
        refine sq fun _ _ => ?_
        refine rg (sg ?_)
        refine nx ?_
        refine sq fun _ _ => ?_
        refine cb (fun h => ?_) (fun h => ?_)
        · have hin : i < p.kids.length := by omega
          have hwi : IntKind.i64.wrap ((i : Int) + 1) = ((i + 1 : Nat) : Int) := wrap_succ (by omega)
          have hee := el_at (f := cPr) hin
          have hdr : p.kids.drop i = p.kids[i] :: p.kids.drop (i + 1) := List.drop_eq_getElem_cons hin
          have hkm : p.kids[i] ∈ p.kids := List.getElem_mem hin
          have hkd : p.kids[i].dep ≤ d := deps_kid (by omega) _ hkm
          rw [hdr] at hev hll
          rw [colsL_cons] at hev
          simp only [cnts] at hll
          have hkl := colsP_len p.kids[i] l'
          rcases hX with ⟨hl', rfl, rfl⟩ | ⟨rfl, rfl⟩
          · refine sk (sg ?_)
            refine nx ?_
            refine sq fun _ _ => ?_
            refine bl ?_
            refine sq fun _ _ => ?_
            refine rg (sg ?_)
            refine and_assoc.2 ?_
            refine And.intro (by first | assumption | omega | rfl | trivial) ?_
            refine And.intro (by first | assumption | omega | rfl | trivial) ?_
            simp (disch := omega) only [el_at]
            refine sg ?_
            refine nx ?_
            refine sq fun _ _ => ?_
            refine rg (sg ?_)
            refine cl [0, 1] (sg ?_)
            rw [hwd, ← hl']
            refine (ih p.kids[i] l' (hp.kid _ hkm) hkd (by omega) (by omega)).mono ?_
            rintro r bx ⟨rfl, ⟨hB, rfl⟩ | rfl⟩
            · refine sg ?_
              refine nx ?_
              refine cf (hy := ?_)
              refine sk (sg ?_)
              refine nx ?_
              refine rg (sg ?_)
              simp (disch := omega) only [wrap_succ]
              rw [hB] at hev
              refine ln (p.kids.length - (i + 1)) [] ?_ ?_
              · omega
              refine ⟨i + 1, l', _, _, rfl, by omega, hev, by omega, .inl ⟨hl', rfl, rfl⟩, ?_⟩
              simp only [go_sem, Nat.reduceAdd, Nat.reduceSub, Nat.reduceMul, Nat.reduceLT, Nat.reduceLeDiff, Nat.reduceEqDiff, reduceIte, reduceCtorEq, if_true, if_false, Int.reduceEq, Int.reduceLT, Int.reduceLE, Int.reduceAdd, Int.reduceSub, Int.reduceMul, Int.reduceNeg, Int.reduceToNat, decide_true, decide_false, Nat.reduceBEq, St.ids, upto, arr_sub, hwi, hl']
            · refine sg ?_
              refine nx ?_
              refine cf (hy := ?_)
              refine sk (sg ?_)
              refine nx ?_
              refine rg (sg ?_)
              simp (disch := omega) only [wrap_succ]
              refine ln (p.kids.length - (i + 1)) [3] ?_ ?_
              · omega
              refine ⟨i + 1, _, _, _, rfl, by omega, hev, by omega, .inr ⟨rfl, rfl⟩, ?_⟩
              simp only [go_sem, Nat.reduceAdd, Nat.reduceSub, Nat.reduceMul, Nat.reduceLT, Nat.reduceLeDiff, Nat.reduceEqDiff, reduceIte, reduceCtorEq, if_true, if_false, Int.reduceEq, Int.reduceLT, Int.reduceLE, Int.reduceAdd, Int.reduceSub, Int.reduceMul, Int.reduceNeg, Int.reduceToNat, decide_true, decide_false, Nat.reduceBEq, St.ids, upto, arr_sub, hwi]
          · refine sk (sg ?_)
            refine nx ?_
            refine sq fun _ _ => ?_
            refine bl ?_
            refine sq fun _ _ => ?_
            refine rg (sg ?_)
            refine and_assoc.2 ?_
            refine And.intro (by first | assumption | omega | rfl | trivial) ?_
            refine And.intro (by first | assumption | omega | rfl | trivial) ?_
            simp (disch := omega) only [el_at]
            refine sg ?_
            refine nx ?_
            refine sq fun _ _ => ?_
            refine rg (sg ?_)
            refine cl [0, 2] (sg ?_)
            rw [hwd]
            refine (ih p.kids[i] l' (hp.kid _ hkm) hkd (by omega) (by omega)).mono ?_
            rintro r bx ⟨rfl, ⟨hB, rfl⟩ | rfl⟩
            · refine sg ?_
              refine nx ?_
              refine cf (hy := ?_)
              refine sk (sg ?_)
              refine nx ?_
              refine rg (sg ?_)
              simp (disch := omega) only [wrap_succ]
              rw [hB] at hev
              refine ln (p.kids.length - (i + 1)) [2] ?_ ?_
              · omega
              refine ⟨i + 1, l', _, _, rfl, by omega, hev, by omega, .inr ⟨rfl, rfl⟩, ?_⟩
              simp only [go_sem, Nat.reduceAdd, Nat.reduceSub, Nat.reduceMul, Nat.reduceLT, Nat.reduceLeDiff, Nat.reduceEqDiff, reduceIte, reduceCtorEq, if_true, if_false, Int.reduceEq, Int.reduceLT, Int.reduceLE, Int.reduceAdd, Int.reduceSub, Int.reduceMul, Int.reduceNeg, Int.reduceToNat, decide_true, decide_false, Nat.reduceBEq, St.ids, upto, arr_sub, hwi]
            · refine sg ?_
              refine nx ?_
              refine cf (hy := ?_)
              refine sk (sg ?_)
              refine nx ?_
              refine rg (sg ?_)
              simp (disch := omega) only [wrap_succ]
              refine ln (p.kids.length - (i + 1)) [4] ?_ ?_
              · omega
              refine ⟨i + 1, _, _, _, rfl, by omega, hev, by omega, .inr ⟨rfl, rfl⟩, ?_⟩
              simp only [go_sem, Nat.reduceAdd, Nat.reduceSub, Nat.reduceMul, Nat.reduceLT, Nat.reduceLeDiff, Nat.reduceEqDiff, reduceIte, reduceCtorEq, if_true, if_false, Int.reduceEq, Int.reduceLT, Int.reduceLE, Int.reduceAdd, Int.reduceSub, Int.reduceMul, Int.reduceNeg, Int.reduceToNat, decide_true, decide_false, Nat.reduceBEq, St.ids, upto, arr_sub, hwi]
        · rw [List.drop_of_length_le (by omega), colsL_nil] at hev
          rcases hX with ⟨hl', rfl, rfl⟩ | ⟨rfl, rfl⟩
          · refine xt (sg ?_)
            refine lx (g := sg ?_)
            refine nx ?_
            refine sq fun _ _ => ?_
            refine rg (sg ?_)
            refine nx ?_
            refine rt ?_
            refine f1 (g := sg ?_)
            refine ax [] ⟨rfl, .inl ⟨by rw [hev, hl'], ?_⟩⟩
            simp only [go_sem, Nat.reduceAdd, Nat.reduceSub, Nat.reduceMul, Nat.reduceLT, Nat.reduceLeDiff, Nat.reduceEqDiff, reduceIte, reduceCtorEq, if_true, if_false, Int.reduceEq, Int.reduceLT, Int.reduceLE, Int.reduceAdd, Int.reduceSub, Int.reduceMul, Int.reduceNeg, Int.reduceToNat, decide_true, decide_false, Nat.reduceBEq, St.ids, upto, arr_sub]
          · refine xt (sg ?_)
            refine lx (g := sg ?_)
            refine nx ?_
            refine sq fun _ _ => ?_
            refine rg (sg ?_)
            refine nx ?_
            refine rt ?_
            refine f1 (g := sg ?_)
            refine ax [2] ⟨rfl, .inr ?_⟩
            simp only [go_sem, Nat.reduceAdd, Nat.reduceSub, Nat.reduceMul, Nat.reduceLT, Nat.reduceLeDiff, Nat.reduceEqDiff, reduceIte, reduceCtorEq, if_true, if_false, Int.reduceEq, Int.reduceLT, Int.reduceLE, Int.reduceAdd, Int.reduceSub, Int.reduceMul, Int.reduceNeg, Int.reduceToNat, decide_true, decide_false, Nat.reduceBEq, St.ids, upto, arr_sub, hev]
    · refine sg ?_
      refine hrl (sg ?_)
      refine nx ?_
      refine cf (hy := ?_)
      refine sk (sg ?_)
      refine nx ?_
      refine sq fun _ _ => ?_
      refine sq fun _ _ => ?_
      refine rg (sg ?_)
      refine nx ?_
      refine bl ?_
      refine lp [1, 2, 18, 19, 20] [3] (fun k σ => ∃ (i : Nat) (l' : List ByteArray) (x : B) (X : List B), k = p.kids.length - i ∧ i ≤ p.kids.length ∧ colsP p l = colsL (p.kids.drop i) l' ∧ l'.length + cnts (p.kids.drop i) ≤ 500 ∧ ((l' = l ∧ x = vO 1 l.length ∧ X = [arS l]) ∨ (x = vO 2 l'.length ∧ X = [.hid, arS l'])) ∧ σ = ⟨31, 2, [(1, A.int .i64 ((d + 1 : Nat) : Int)), (2, A.one (L.fn 24 [0])), (18, xRow p.kids.length 9 (elemsOf (List.map cPr p.kids))), (19, A.int .i64 p.kids.length), (20, A.int .i64 i)], x :: X⟩) p.kids.length ?_ ?_
      · refine ⟨0, (addC l p.col), _, _, by omega, by omega, hcE, hcl, .inr ⟨rfl, rfl⟩, ?_⟩
        simp only [go_sem, Nat.reduceAdd, Nat.reduceSub, Nat.reduceMul, Nat.reduceLT, Nat.reduceLeDiff, Nat.reduceEqDiff, reduceIte, reduceCtorEq, if_true, if_false, Int.reduceEq, Int.reduceLT, Int.reduceLE, Int.reduceAdd, Int.reduceSub, Int.reduceMul, Int.reduceNeg, Int.reduceToNat, decide_true, decide_false, Nat.reduceBEq, St.ids, upto, arr_sub]
      · rintro k σ' ⟨i, l', x, X, hk, hi, hev, hll, hX, rfl⟩ Q1 hQ1
        refine sq fun _ _ => ?_
        refine rg (sg ?_)
        refine nx ?_
        refine sq fun _ _ => ?_
        refine cb (fun h => ?_) (fun h => ?_)
        · have hin : i < p.kids.length := by omega
          have hwi : IntKind.i64.wrap ((i : Int) + 1) = ((i + 1 : Nat) : Int) := wrap_succ (by omega)
          have hee := el_at (f := cPr) hin
          have hdr : p.kids.drop i = p.kids[i] :: p.kids.drop (i + 1) := List.drop_eq_getElem_cons hin
          have hkm : p.kids[i] ∈ p.kids := List.getElem_mem hin
          have hkd : p.kids[i].dep ≤ d := deps_kid (by omega) _ hkm
          rw [hdr] at hev hll
          rw [colsL_cons] at hev
          simp only [cnts] at hll
          have hkl := colsP_len p.kids[i] l'
          rcases hX with ⟨hl', rfl, rfl⟩ | ⟨rfl, rfl⟩
          · refine sk (sg ?_)
            refine nx ?_
            refine sq fun _ _ => ?_
            refine bl ?_
            refine sq fun _ _ => ?_
            refine rg (sg ?_)
            refine and_assoc.2 ?_
            refine And.intro (by first | assumption | omega | rfl | trivial) ?_
            refine And.intro (by first | assumption | omega | rfl | trivial) ?_
            simp (disch := omega) only [el_at]
            refine sg ?_
            refine nx ?_
            refine sq fun _ _ => ?_
            refine rg (sg ?_)
            refine cl [0, 1] (sg ?_)
            rw [hwd, ← hl']
            refine (ih p.kids[i] l' (hp.kid _ hkm) hkd (by omega) (by omega)).mono ?_
            rintro r bx ⟨rfl, ⟨hB, rfl⟩ | rfl⟩
            · refine sg ?_
              refine nx ?_
              refine cf (hy := ?_)
              refine sk (sg ?_)
              refine nx ?_
              refine rg (sg ?_)
              simp (disch := omega) only [wrap_succ]
              rw [hB] at hev
              refine ln (p.kids.length - (i + 1)) [] ?_ ?_
              · omega
              refine ⟨i + 1, l', _, _, rfl, by omega, hev, by omega, .inl ⟨hl', rfl, rfl⟩, ?_⟩
              simp only [go_sem, Nat.reduceAdd, Nat.reduceSub, Nat.reduceMul, Nat.reduceLT, Nat.reduceLeDiff, Nat.reduceEqDiff, reduceIte, reduceCtorEq, if_true, if_false, Int.reduceEq, Int.reduceLT, Int.reduceLE, Int.reduceAdd, Int.reduceSub, Int.reduceMul, Int.reduceNeg, Int.reduceToNat, decide_true, decide_false, Nat.reduceBEq, St.ids, upto, arr_sub, hwi, hl']
            · refine sg ?_
              refine nx ?_
              refine cf (hy := ?_)
              refine sk (sg ?_)
              refine nx ?_
              refine rg (sg ?_)
              simp (disch := omega) only [wrap_succ]
              refine ln (p.kids.length - (i + 1)) [3] ?_ ?_
              · omega
              refine ⟨i + 1, _, _, _, rfl, by omega, hev, by omega, .inr ⟨rfl, rfl⟩, ?_⟩
              simp only [go_sem, Nat.reduceAdd, Nat.reduceSub, Nat.reduceMul, Nat.reduceLT, Nat.reduceLeDiff, Nat.reduceEqDiff, reduceIte, reduceCtorEq, if_true, if_false, Int.reduceEq, Int.reduceLT, Int.reduceLE, Int.reduceAdd, Int.reduceSub, Int.reduceMul, Int.reduceNeg, Int.reduceToNat, decide_true, decide_false, Nat.reduceBEq, St.ids, upto, arr_sub, hwi]
          · refine sk (sg ?_)
            refine nx ?_
            refine sq fun _ _ => ?_
            refine bl ?_
            refine sq fun _ _ => ?_
            refine rg (sg ?_)
            refine and_assoc.2 ?_
            refine And.intro (by first | assumption | omega | rfl | trivial) ?_
            refine And.intro (by first | assumption | omega | rfl | trivial) ?_
            simp (disch := omega) only [el_at]
            refine sg ?_
            refine nx ?_
            refine sq fun _ _ => ?_
            refine rg (sg ?_)
            refine cl [0, 2] (sg ?_)
            rw [hwd]
            refine (ih p.kids[i] l' (hp.kid _ hkm) hkd (by omega) (by omega)).mono ?_
            rintro r bx ⟨rfl, ⟨hB, rfl⟩ | rfl⟩
            · refine sg ?_
              refine nx ?_
              refine cf (hy := ?_)
              refine sk (sg ?_)
              refine nx ?_
              refine rg (sg ?_)
              simp (disch := omega) only [wrap_succ]
              rw [hB] at hev
              refine ln (p.kids.length - (i + 1)) [2] ?_ ?_
              · omega
              refine ⟨i + 1, l', _, _, rfl, by omega, hev, by omega, .inr ⟨rfl, rfl⟩, ?_⟩
              simp only [go_sem, Nat.reduceAdd, Nat.reduceSub, Nat.reduceMul, Nat.reduceLT, Nat.reduceLeDiff, Nat.reduceEqDiff, reduceIte, reduceCtorEq, if_true, if_false, Int.reduceEq, Int.reduceLT, Int.reduceLE, Int.reduceAdd, Int.reduceSub, Int.reduceMul, Int.reduceNeg, Int.reduceToNat, decide_true, decide_false, Nat.reduceBEq, St.ids, upto, arr_sub, hwi]
            · refine sg ?_
              refine nx ?_
              refine cf (hy := ?_)
              refine sk (sg ?_)
              refine nx ?_
              refine rg (sg ?_)
              simp (disch := omega) only [wrap_succ]
              refine ln (p.kids.length - (i + 1)) [4] ?_ ?_
              · omega
              refine ⟨i + 1, _, _, _, rfl, by omega, hev, by omega, .inr ⟨rfl, rfl⟩, ?_⟩
              simp only [go_sem, Nat.reduceAdd, Nat.reduceSub, Nat.reduceMul, Nat.reduceLT, Nat.reduceLeDiff, Nat.reduceEqDiff, reduceIte, reduceCtorEq, if_true, if_false, Int.reduceEq, Int.reduceLT, Int.reduceLE, Int.reduceAdd, Int.reduceSub, Int.reduceMul, Int.reduceNeg, Int.reduceToNat, decide_true, decide_false, Nat.reduceBEq, St.ids, upto, arr_sub, hwi]
        · rw [List.drop_of_length_le (by omega), colsL_nil] at hev
          rcases hX with ⟨hl', rfl, rfl⟩ | ⟨rfl, rfl⟩
          · refine xt (sg ?_)
            refine lx (g := sg ?_)
            refine nx ?_
            refine sq fun _ _ => ?_
            refine rg (sg ?_)
            refine nx ?_
            refine rt ?_
            refine f1 (g := sg ?_)
            refine ax [] ⟨rfl, .inl ⟨by rw [hev, hl'], ?_⟩⟩
            simp only [go_sem, Nat.reduceAdd, Nat.reduceSub, Nat.reduceMul, Nat.reduceLT, Nat.reduceLeDiff, Nat.reduceEqDiff, reduceIte, reduceCtorEq, if_true, if_false, Int.reduceEq, Int.reduceLT, Int.reduceLE, Int.reduceAdd, Int.reduceSub, Int.reduceMul, Int.reduceNeg, Int.reduceToNat, decide_true, decide_false, Nat.reduceBEq, St.ids, upto, arr_sub]
          · refine xt (sg ?_)
            refine lx (g := sg ?_)
            refine nx ?_
            refine sq fun _ _ => ?_
            refine rg (sg ?_)
            refine nx ?_
            refine rt ?_
            refine f1 (g := sg ?_)
            refine ax [2] ⟨rfl, .inr ?_⟩
            simp only [go_sem, Nat.reduceAdd, Nat.reduceSub, Nat.reduceMul, Nat.reduceLT, Nat.reduceLeDiff, Nat.reduceEqDiff, reduceIte, reduceCtorEq, if_true, if_false, Int.reduceEq, Int.reduceLT, Int.reduceLE, Int.reduceAdd, Int.reduceSub, Int.reduceMul, Int.reduceNeg, Int.reduceToNat, decide_true, decide_false, Nat.reduceBEq, St.ids, upto, arr_sub, hev]
theorem c23cn (d : Nat) : ∀ (p : Pr), Sm p → p.dep ≤ d → d ≤ 100 → p.cnt ≤ 500 → PC Tryd.prog 23 [aPr p, A.int .i64 d, .one (.fn 24 [0])] [vN] (fun r bx => r = A.bool true ∧ ((colsP p [] = [] ∧ bx = [vN]) ∨ bx = [vO 1 (colsP p []).length, arS (colsP p [])])) := by
  induction d with
  | zero =>
    intro p hp hd
    have := dep_eq p
    omega
  | succ d ih =>
    intro p hp hdp hd hcn
    have hlen := hp.len
    have hcol := hp.col
    have hde := dep_eq p
    have hce := cnt_eq p
    have hd1 : ¬ (((d + 1 : Nat) : Int) < 1) := by omega
    have hc1 : p.col.size ≤ 1000 := by omega
    have hl1 : p.kids.length ≤ 1000 := by omega
    have hwd : IntKind.i64.wrap (((d + 1 : Nat) : Int) - 1) = (d : Int) := by rw [IntKind.wrap_i64]; omega
    have hcE : colsP p [] = colsL (p.kids.drop 0) (addC [] p.col) := colsP_eq p []
    have hcl : (addC [] p.col).length + cnts (p.kids.drop 0) ≤ 500 := by
      have := addC_len [] p.col
      rw [List.drop_zero]
      simp only [List.length_nil] at this
      omega
    refine enter (rs := [.tmp 6]) mx Tryd.func23 Tryd.ntmps23 fun Q0 hQ0 => ?_
    refine sq fun _ _ => ?_
    refine rg (sg ?_)
    refine nx ?_
    refine sq fun _ _ => ?_
    refine sq fun _ _ => ?_
    refine rgs 6 ?_
    simp only [go_sem, Nat.reduceAdd, Nat.reduceSub, Nat.reduceMul, Nat.reduceLT, Nat.reduceLeDiff, Nat.reduceEqDiff, reduceIte, reduceCtorEq, if_true, if_false, Int.reduceEq, Int.reduceLT, Int.reduceLE, Int.reduceAdd, Int.reduceSub, Int.reduceMul, Int.reduceNeg, Int.reduceToNat, decide_true, decide_false, Nat.reduceBEq, hd1, List.take_succ_cons, List.take_zero, List.drop_succ_cons, List.drop_zero]
    refine cl [0] (sg ?_)
    refine (c24n p hc1).mono ?_
    rintro r bx ⟨rfl, ⟨hA, rfl⟩ | rfl⟩
    · refine sg ?_
      rw [hA] at hcE hcl
      refine hrl (sg ?_)
      refine nx ?_
      refine cf (hy := ?_)
      refine sk (sg ?_)
      refine nx ?_
      refine sq fun _ _ => ?_
      refine sq fun _ _ => ?_
      refine rg (sg ?_)
      refine nx ?_
      refine bl ?_
      refine lp [1, 2, 18, 19, 20] [] (fun k σ => ∃ (i : Nat) (l' : List ByteArray) (x : B) (X : List B), k = p.kids.length - i ∧ i ≤ p.kids.length ∧ colsP p [] = colsL (p.kids.drop i) l' ∧ l'.length + cnts (p.kids.drop i) ≤ 500 ∧ ((l' = [] ∧ x = vN ∧ X = []) ∨ (x = vO 1 l'.length ∧ X = [arS l'])) ∧ σ = ⟨31, 1, [(1, A.int .i64 ((d + 1 : Nat) : Int)), (2, A.one (L.fn 24 [0])), (18, xRow p.kids.length 9 (elemsOf (List.map cPr p.kids))), (19, A.int .i64 p.kids.length), (20, A.int .i64 i)], x :: X⟩) p.kids.length ?_ ?_
      · refine ⟨0, [], _, _, by omega, by omega, hcE, hcl, .inl ⟨rfl, rfl, rfl⟩, ?_⟩
        simp only [go_sem, Nat.reduceAdd, Nat.reduceSub, Nat.reduceMul, Nat.reduceLT, Nat.reduceLeDiff, Nat.reduceEqDiff, reduceIte, reduceCtorEq, if_true, if_false, Int.reduceEq, Int.reduceLT, Int.reduceLE, Int.reduceAdd, Int.reduceSub, Int.reduceMul, Int.reduceNeg, Int.reduceToNat, decide_true, decide_false, Nat.reduceBEq, St.ids, upto, arr_sub]
      · rintro k σ' ⟨i, l', x, X, hk, hi, hev, hll, hX, rfl⟩ Q1 hQ1
        refine sq fun _ _ => ?_
        refine rg (sg ?_)
        refine nx ?_
        refine sq fun _ _ => ?_
        refine cb (fun h => ?_) (fun h => ?_)
        · have hin : i < p.kids.length := by omega
          have hwi : IntKind.i64.wrap ((i : Int) + 1) = ((i + 1 : Nat) : Int) := wrap_succ (by omega)
          have hee := el_at (f := cPr) hin
          have hdr : p.kids.drop i = p.kids[i] :: p.kids.drop (i + 1) := List.drop_eq_getElem_cons hin
          have hkm : p.kids[i] ∈ p.kids := List.getElem_mem hin
          have hkd : p.kids[i].dep ≤ d := deps_kid (by omega) _ hkm
          rw [hdr] at hev hll
          rw [colsL_cons] at hev
          simp only [cnts] at hll
          have hkl := colsP_len p.kids[i] l'
          rcases hX with ⟨hl', rfl, rfl⟩ | ⟨rfl, rfl⟩
          · rw [hl'] at hev hll
            refine sk (sg ?_)
            refine nx ?_
            refine sq fun _ _ => ?_
            refine bl ?_
            refine sq fun _ _ => ?_
            refine rg (sg ?_)
            refine and_assoc.2 ?_
            refine And.intro (by first | assumption | omega | rfl | trivial) ?_
            refine And.intro (by first | assumption | omega | rfl | trivial) ?_
            simp (disch := omega) only [el_at]
            refine sg ?_
            refine nx ?_
            refine sq fun _ _ => ?_
            refine rg (sg ?_)
            refine cl [0] (sg ?_)
            rw [hwd]
            refine (ih p.kids[i] (hp.kid _ hkm) hkd (by omega) (by omega)).mono ?_
            rintro r bx ⟨rfl, ⟨hB, rfl⟩ | rfl⟩
            · refine sg ?_
              refine nx ?_
              refine cf (hy := ?_)
              refine sk (sg ?_)
              refine nx ?_
              refine rg (sg ?_)
              simp (disch := omega) only [wrap_succ]
              rw [hB] at hev
              refine ln (p.kids.length - (i + 1)) [] ?_ ?_
              · omega
              refine ⟨i + 1, [], _, _, rfl, by omega, hev, by simp only [List.length_nil]; omega, .inl ⟨rfl, rfl, rfl⟩, ?_⟩
              simp only [go_sem, Nat.reduceAdd, Nat.reduceSub, Nat.reduceMul, Nat.reduceLT, Nat.reduceLeDiff, Nat.reduceEqDiff, reduceIte, reduceCtorEq, if_true, if_false, Int.reduceEq, Int.reduceLT, Int.reduceLE, Int.reduceAdd, Int.reduceSub, Int.reduceMul, Int.reduceNeg, Int.reduceToNat, decide_true, decide_false, Nat.reduceBEq, St.ids, upto, arr_sub, hwi]
            · refine sg ?_
              refine nx ?_
              refine cf (hy := ?_)
              refine sk (sg ?_)
              refine nx ?_
              refine rg (sg ?_)
              simp (disch := omega) only [wrap_succ]
              refine ln (p.kids.length - (i + 1)) [2] ?_ ?_
              · omega
              have hk0 := colsP_len p.kids[i] []
              refine ⟨i + 1, _, _, _, rfl, by omega, hev, ?_, .inr ⟨rfl, rfl⟩, ?_⟩
              · simp only [List.length_nil] at hk0 hll
                omega
              simp only [go_sem, Nat.reduceAdd, Nat.reduceSub, Nat.reduceMul, Nat.reduceLT, Nat.reduceLeDiff, Nat.reduceEqDiff, reduceIte, reduceCtorEq, if_true, if_false, Int.reduceEq, Int.reduceLT, Int.reduceLE, Int.reduceAdd, Int.reduceSub, Int.reduceMul, Int.reduceNeg, Int.reduceToNat, decide_true, decide_false, Nat.reduceBEq, St.ids, upto, arr_sub, hwi]
          · refine sk (sg ?_)
            refine nx ?_
            refine sq fun _ _ => ?_
            refine bl ?_
            refine sq fun _ _ => ?_
            refine rg (sg ?_)
            refine and_assoc.2 ?_
            refine And.intro (by first | assumption | omega | rfl | trivial) ?_
            refine And.intro (by first | assumption | omega | rfl | trivial) ?_
            simp (disch := omega) only [el_at]
            refine sg ?_
            refine nx ?_
            refine sq fun _ _ => ?_
            refine rg (sg ?_)
            refine cl [0, 1] (sg ?_)
            rw [hwd]
            refine (c23co d p.kids[i] l' (hp.kid _ hkm) hkd (by omega) (by omega)).mono ?_
            rintro r bx ⟨rfl, ⟨hB, rfl⟩ | rfl⟩
            · refine sg ?_
              refine nx ?_
              refine cf (hy := ?_)
              refine sk (sg ?_)
              refine nx ?_
              refine rg (sg ?_)
              simp (disch := omega) only [wrap_succ]
              rw [hB] at hev
              refine ln (p.kids.length - (i + 1)) [1] ?_ ?_
              · omega
              refine ⟨i + 1, l', _, _, rfl, by omega, hev, by omega, .inr ⟨rfl, rfl⟩, ?_⟩
              simp only [go_sem, Nat.reduceAdd, Nat.reduceSub, Nat.reduceMul, Nat.reduceLT, Nat.reduceLeDiff, Nat.reduceEqDiff, reduceIte, reduceCtorEq, if_true, if_false, Int.reduceEq, Int.reduceLT, Int.reduceLE, Int.reduceAdd, Int.reduceSub, Int.reduceMul, Int.reduceNeg, Int.reduceToNat, decide_true, decide_false, Nat.reduceBEq, St.ids, upto, arr_sub, hwi]
            · refine sg ?_
              refine nx ?_
              refine cf (hy := ?_)
              refine sk (sg ?_)
              refine nx ?_
              refine rg (sg ?_)
              simp (disch := omega) only [wrap_succ]
              refine ln (p.kids.length - (i + 1)) [3] ?_ ?_
              · omega
              refine ⟨i + 1, _, _, _, rfl, by omega, hev, by omega, .inr ⟨rfl, rfl⟩, ?_⟩
              simp only [go_sem, Nat.reduceAdd, Nat.reduceSub, Nat.reduceMul, Nat.reduceLT, Nat.reduceLeDiff, Nat.reduceEqDiff, reduceIte, reduceCtorEq, if_true, if_false, Int.reduceEq, Int.reduceLT, Int.reduceLE, Int.reduceAdd, Int.reduceSub, Int.reduceMul, Int.reduceNeg, Int.reduceToNat, decide_true, decide_false, Nat.reduceBEq, St.ids, upto, arr_sub, hwi]
        · rw [List.drop_of_length_le (by omega), colsL_nil] at hev
          rcases hX with ⟨hl', rfl, rfl⟩ | ⟨rfl, rfl⟩
          · refine xt (sg ?_)
            refine lx (g := sg ?_)
            refine nx ?_
            refine sq fun _ _ => ?_
            refine rg (sg ?_)
            refine nx ?_
            refine rt ?_
            refine f1 (g := sg ?_)
            refine ax [] ⟨rfl, .inl ⟨by rw [hev, hl'], ?_⟩⟩
            simp only [go_sem, Nat.reduceAdd, Nat.reduceSub, Nat.reduceMul, Nat.reduceLT, Nat.reduceLeDiff, Nat.reduceEqDiff, reduceIte, reduceCtorEq, if_true, if_false, Int.reduceEq, Int.reduceLT, Int.reduceLE, Int.reduceAdd, Int.reduceSub, Int.reduceMul, Int.reduceNeg, Int.reduceToNat, decide_true, decide_false, Nat.reduceBEq, St.ids, upto, arr_sub]
          · refine xt (sg ?_)
            refine lx (g := sg ?_)
            refine nx ?_
            refine sq fun _ _ => ?_
            refine rg (sg ?_)
            refine nx ?_
            refine rt ?_
            refine f1 (g := sg ?_)
            refine ax [1] ⟨rfl, .inr ?_⟩
            simp only [go_sem, Nat.reduceAdd, Nat.reduceSub, Nat.reduceMul, Nat.reduceLT, Nat.reduceLeDiff, Nat.reduceEqDiff, reduceIte, reduceCtorEq, if_true, if_false, Int.reduceEq, Int.reduceLT, Int.reduceLE, Int.reduceAdd, Int.reduceSub, Int.reduceMul, Int.reduceNeg, Int.reduceToNat, decide_true, decide_false, Nat.reduceBEq, St.ids, upto, arr_sub, hev]
    · refine sg ?_
      refine hrl (sg ?_)
      refine nx ?_
      refine cf (hy := ?_)
      refine sk (sg ?_)
      refine nx ?_
      refine sq fun _ _ => ?_
      refine sq fun _ _ => ?_
      refine rg (sg ?_)
      refine nx ?_
      refine bl ?_
      refine lp [1, 2, 18, 19, 20] [2] (fun k σ => ∃ (i : Nat) (l' : List ByteArray) (x : B) (X : List B), k = p.kids.length - i ∧ i ≤ p.kids.length ∧ colsP p [] = colsL (p.kids.drop i) l' ∧ l'.length + cnts (p.kids.drop i) ≤ 500 ∧ ((l' = [] ∧ x = vN ∧ X = []) ∨ (x = vO 1 l'.length ∧ X = [arS l'])) ∧ σ = ⟨31, 1, [(1, A.int .i64 ((d + 1 : Nat) : Int)), (2, A.one (L.fn 24 [0])), (18, xRow p.kids.length 9 (elemsOf (List.map cPr p.kids))), (19, A.int .i64 p.kids.length), (20, A.int .i64 i)], x :: X⟩) p.kids.length ?_ ?_
      · refine ⟨0, (addC [] p.col), _, _, by omega, by omega, hcE, hcl, .inr ⟨rfl, rfl⟩, ?_⟩
        simp only [go_sem, Nat.reduceAdd, Nat.reduceSub, Nat.reduceMul, Nat.reduceLT, Nat.reduceLeDiff, Nat.reduceEqDiff, reduceIte, reduceCtorEq, if_true, if_false, Int.reduceEq, Int.reduceLT, Int.reduceLE, Int.reduceAdd, Int.reduceSub, Int.reduceMul, Int.reduceNeg, Int.reduceToNat, decide_true, decide_false, Nat.reduceBEq, St.ids, upto, arr_sub]
      · rintro k σ' ⟨i, l', x, X, hk, hi, hev, hll, hX, rfl⟩ Q1 hQ1
        refine sq fun _ _ => ?_
        refine rg (sg ?_)
        refine nx ?_
        refine sq fun _ _ => ?_
        refine cb (fun h => ?_) (fun h => ?_)
        · have hin : i < p.kids.length := by omega
          have hwi : IntKind.i64.wrap ((i : Int) + 1) = ((i + 1 : Nat) : Int) := wrap_succ (by omega)
          have hee := el_at (f := cPr) hin
          have hdr : p.kids.drop i = p.kids[i] :: p.kids.drop (i + 1) := List.drop_eq_getElem_cons hin
          have hkm : p.kids[i] ∈ p.kids := List.getElem_mem hin
          have hkd : p.kids[i].dep ≤ d := deps_kid (by omega) _ hkm
          rw [hdr] at hev hll
          rw [colsL_cons] at hev
          simp only [cnts] at hll
          have hkl := colsP_len p.kids[i] l'
          rcases hX with ⟨hl', rfl, rfl⟩ | ⟨rfl, rfl⟩
          · rw [hl'] at hev hll
            refine sk (sg ?_)
            refine nx ?_
            refine sq fun _ _ => ?_
            refine bl ?_
            refine sq fun _ _ => ?_
            refine rg (sg ?_)
            refine and_assoc.2 ?_
            refine And.intro (by first | assumption | omega | rfl | trivial) ?_
            refine And.intro (by first | assumption | omega | rfl | trivial) ?_
            simp (disch := omega) only [el_at]
            refine sg ?_
            refine nx ?_
            refine sq fun _ _ => ?_
            refine rg (sg ?_)
            refine cl [0] (sg ?_)
            rw [hwd]
            refine (ih p.kids[i] (hp.kid _ hkm) hkd (by omega) (by omega)).mono ?_
            rintro r bx ⟨rfl, ⟨hB, rfl⟩ | rfl⟩
            · refine sg ?_
              refine nx ?_
              refine cf (hy := ?_)
              refine sk (sg ?_)
              refine nx ?_
              refine rg (sg ?_)
              simp (disch := omega) only [wrap_succ]
              rw [hB] at hev
              refine ln (p.kids.length - (i + 1)) [] ?_ ?_
              · omega
              refine ⟨i + 1, [], _, _, rfl, by omega, hev, by simp only [List.length_nil]; omega, .inl ⟨rfl, rfl, rfl⟩, ?_⟩
              simp only [go_sem, Nat.reduceAdd, Nat.reduceSub, Nat.reduceMul, Nat.reduceLT, Nat.reduceLeDiff, Nat.reduceEqDiff, reduceIte, reduceCtorEq, if_true, if_false, Int.reduceEq, Int.reduceLT, Int.reduceLE, Int.reduceAdd, Int.reduceSub, Int.reduceMul, Int.reduceNeg, Int.reduceToNat, decide_true, decide_false, Nat.reduceBEq, St.ids, upto, arr_sub, hwi]
            · refine sg ?_
              refine nx ?_
              refine cf (hy := ?_)
              refine sk (sg ?_)
              refine nx ?_
              refine rg (sg ?_)
              simp (disch := omega) only [wrap_succ]
              refine ln (p.kids.length - (i + 1)) [2] ?_ ?_
              · omega
              have hk0 := colsP_len p.kids[i] []
              refine ⟨i + 1, _, _, _, rfl, by omega, hev, ?_, .inr ⟨rfl, rfl⟩, ?_⟩
              · simp only [List.length_nil] at hk0 hll
                omega
              simp only [go_sem, Nat.reduceAdd, Nat.reduceSub, Nat.reduceMul, Nat.reduceLT, Nat.reduceLeDiff, Nat.reduceEqDiff, reduceIte, reduceCtorEq, if_true, if_false, Int.reduceEq, Int.reduceLT, Int.reduceLE, Int.reduceAdd, Int.reduceSub, Int.reduceMul, Int.reduceNeg, Int.reduceToNat, decide_true, decide_false, Nat.reduceBEq, St.ids, upto, arr_sub, hwi]
          · refine sk (sg ?_)
            refine nx ?_
            refine sq fun _ _ => ?_
            refine bl ?_
            refine sq fun _ _ => ?_
            refine rg (sg ?_)
            refine and_assoc.2 ?_
            refine And.intro (by first | assumption | omega | rfl | trivial) ?_
            refine And.intro (by first | assumption | omega | rfl | trivial) ?_
            simp (disch := omega) only [el_at]
            refine sg ?_
            refine nx ?_
            refine sq fun _ _ => ?_
            refine rg (sg ?_)
            refine cl [0, 1] (sg ?_)
            rw [hwd]
            refine (c23co d p.kids[i] l' (hp.kid _ hkm) hkd (by omega) (by omega)).mono ?_
            rintro r bx ⟨rfl, ⟨hB, rfl⟩ | rfl⟩
            · refine sg ?_
              refine nx ?_
              refine cf (hy := ?_)
              refine sk (sg ?_)
              refine nx ?_
              refine rg (sg ?_)
              simp (disch := omega) only [wrap_succ]
              rw [hB] at hev
              refine ln (p.kids.length - (i + 1)) [1] ?_ ?_
              · omega
              refine ⟨i + 1, l', _, _, rfl, by omega, hev, by omega, .inr ⟨rfl, rfl⟩, ?_⟩
              simp only [go_sem, Nat.reduceAdd, Nat.reduceSub, Nat.reduceMul, Nat.reduceLT, Nat.reduceLeDiff, Nat.reduceEqDiff, reduceIte, reduceCtorEq, if_true, if_false, Int.reduceEq, Int.reduceLT, Int.reduceLE, Int.reduceAdd, Int.reduceSub, Int.reduceMul, Int.reduceNeg, Int.reduceToNat, decide_true, decide_false, Nat.reduceBEq, St.ids, upto, arr_sub, hwi]
            · refine sg ?_
              refine nx ?_
              refine cf (hy := ?_)
              refine sk (sg ?_)
              refine nx ?_
              refine rg (sg ?_)
              simp (disch := omega) only [wrap_succ]
              refine ln (p.kids.length - (i + 1)) [3] ?_ ?_
              · omega
              refine ⟨i + 1, _, _, _, rfl, by omega, hev, by omega, .inr ⟨rfl, rfl⟩, ?_⟩
              simp only [go_sem, Nat.reduceAdd, Nat.reduceSub, Nat.reduceMul, Nat.reduceLT, Nat.reduceLeDiff, Nat.reduceEqDiff, reduceIte, reduceCtorEq, if_true, if_false, Int.reduceEq, Int.reduceLT, Int.reduceLE, Int.reduceAdd, Int.reduceSub, Int.reduceMul, Int.reduceNeg, Int.reduceToNat, decide_true, decide_false, Nat.reduceBEq, St.ids, upto, arr_sub, hwi]
        · rw [List.drop_of_length_le (by omega), colsL_nil] at hev
          rcases hX with ⟨hl', rfl, rfl⟩ | ⟨rfl, rfl⟩
          · refine xt (sg ?_)
            refine lx (g := sg ?_)
            refine nx ?_
            refine sq fun _ _ => ?_
            refine rg (sg ?_)
            refine nx ?_
            refine rt ?_
            refine f1 (g := sg ?_)
            refine ax [] ⟨rfl, .inl ⟨by rw [hev, hl'], ?_⟩⟩
            simp only [go_sem, Nat.reduceAdd, Nat.reduceSub, Nat.reduceMul, Nat.reduceLT, Nat.reduceLeDiff, Nat.reduceEqDiff, reduceIte, reduceCtorEq, if_true, if_false, Int.reduceEq, Int.reduceLT, Int.reduceLE, Int.reduceAdd, Int.reduceSub, Int.reduceMul, Int.reduceNeg, Int.reduceToNat, decide_true, decide_false, Nat.reduceBEq, St.ids, upto, arr_sub]
          · refine xt (sg ?_)
            refine lx (g := sg ?_)
            refine nx ?_
            refine sq fun _ _ => ?_
            refine rg (sg ?_)
            refine nx ?_
            refine rt ?_
            refine f1 (g := sg ?_)
            refine ax [1] ⟨rfl, .inr ?_⟩
            simp only [go_sem, Nat.reduceAdd, Nat.reduceSub, Nat.reduceMul, Nat.reduceLT, Nat.reduceLeDiff, Nat.reduceEqDiff, reduceIte, reduceCtorEq, if_true, if_false, Int.reduceEq, Int.reduceLT, Int.reduceLE, Int.reduceAdd, Int.reduceSub, Int.reduceMul, Int.reduceNeg, Int.reduceToNat, decide_true, decide_false, Nat.reduceBEq, St.ids, upto, arr_sub, hev]
end
section
set_option maxRecDepth 100000
/-! The columns in a predicate: the law's own. -/
theorem any_take (l : List ByteArray) (c : ByteArray) (i : Nat) (h : i < l.length) : (l.take (i + 1)).any (fun x => decide (x = c)) = ((l.take i).any (fun x => decide (x = c)) || decide (l[i] = c)) := by
  rw [List.take_add_one, List.getElem?_eq_getElem h, List.any_append]
  simp
theorem c13o : ∀ (p : Pr) (l : List ByteArray), Sm p → l.length + p.cnt ≤ 500 → PC Tryd.prog 13 [xOwn 0 1 0 l.length, aPr p] [arS l] (fun r bx => (colsP p l = l ∧ r = xOwn 0 1 0 l.length ∧ bx = [arS l]) ∨ (r = xOwn 1 1 0 (colsP p l).length ∧ bx = [.hid, arS (colsP p l)])) := by
  refine Pr.by_kids fun p ih l hp hcn => ?_
  have hlen := hp.len
  have hcol := hp.col
  have hce := cnt_eq p
  have hc1 : p.col.size ≤ 1000 := by omega
  have hl1 : p.kids.length ≤ 1000 := by omega
  have hcE : colsP p l = colsL (p.kids.drop 0) (addC l p.col) := colsP_eq p l
  have hcl : (addC l p.col).length + cnts (p.kids.drop 0) ≤ 500 := by
    have := addC_len l p.col
    rw [List.drop_zero]
    omega
  refine enter (rs := [.tmp 4]) mx Tryd.func13 Tryd.ntmps13 fun Q0 hQ0 => ?_
  refine sq fun _ _ => ?_
  refine rg (sg ?_)
  refine nx ?_
  refine sq fun _ _ => ?_
  refine sq fun _ _ => ?_
  refine rg (sg ?_)
  refine nx ?_
  refine cb (fun h1 => ?_) (fun h1 => ?_)
  · refine sq fun _ _ => ?_
    refine rg (sg ?_)
    refine nx ?_
    refine sq fun _ _ => ?_
    refine sq fun _ _ => ?_
    refine rg (sg ?_)
    refine nx ?_
    refine bl ?_
    refine lp [0, 3, 5, 6] [1] (fun k σ => ∃ i : Nat, k = l.length - i ∧ i ≤ l.length ∧ σ = ⟨49, 1, [(0, xOwn 0 1 0 l.length), (3, xPtr 1 0), (5, A.bool ((l.take i).any fun x => decide (x = p.col))), (6, A.int .i64 i)], [arS l, .var [xI p.op, xS p.col, xI p.cmp, xB p.val.nl, xI p.val.i, xS p.val.s, xI p.kind, xS p.pat, .c (.sl p.kids.length 9 (elemsOf (p.kids.map cPr)))] 26]⟩) l.length ?_ ?_
    · refine ⟨0, by omega, by omega, ?_⟩
      simp only [go_sem, Nat.reduceAdd, Nat.reduceSub, Nat.reduceMul, Nat.reduceLT, Nat.reduceLeDiff, Nat.reduceEqDiff, reduceIte, reduceCtorEq, if_true, if_false, Int.reduceEq, Int.reduceLT, Int.reduceLE, Int.reduceAdd, Int.reduceSub, Int.reduceMul, Int.reduceNeg, Int.reduceToNat, decide_true, decide_false, Nat.reduceBEq, St.ids, upto, arr_sub, List.take_zero, List.any_nil]
    · rintro k σ' ⟨i, hk, hi, rfl⟩ Q1 hQ1
      refine sq fun _ _ => ?_
      refine sq fun _ _ => ?_
      refine rg (sg ?_)
      refine nx ?_
      refine cb (fun h2 => ?_) (fun h2 => ?_)
      · have hin : i < l.length := by omega
        have hwi : IntKind.i64.wrap ((i : Int) + 1) = ((i + 1 : Nat) : Int) := wrap_succ (by omega)
        have he : (l.map fun x => lc (cSt x)).getD i [] = [xS l[i]] := own_at (l := l) cSt hin
        have hb := any_take l p.col i hin
        refine sk (sg ?_)
        refine nx ?_
        refine sq fun _ _ => ?_
        refine bl ?_
        cases hB : (l.take i).any fun x => decide (x = p.col)
        · refine dfs (.pure 0 <| .pure 1 <| .pure 2 <| .pure 3 <| .pure 4 <| .pure 6 <| .two 5 7 (.one 7 <| .pure 8 <| .pure 9 <| .pure 10 <| .nil) (.one 5 <| .pure 8 <| .pure 9 <| .pure 10 <| .nil)) [] ?_
          refine afs (sg ?_)
          refine afs (sg ?_)
          refine afs (sg ?_)
          refine afs (sg ?_)
          refine afs (sg ?_)
          refine and_assoc.2 ?_
          refine And.intro (by first | assumption | omega | rfl | trivial) ?_
          refine And.intro (by first | assumption | omega | rfl | trivial) ?_
          refine afs (sg ?_)
          refine afs (sg ?_)
          refine and_assoc.2 ?_
          refine And.intro (by first | assumption | omega | rfl | trivial) ?_
          refine ⟨?_, ?_⟩
          · refine afs (sg ?_)
            refine afs (sg ?_)
            simp only [go_sem, Nat.reduceAdd, Nat.reduceSub, Nat.reduceMul, Nat.reduceLT, Nat.reduceLeDiff, Nat.reduceEqDiff, reduceIte, reduceCtorEq, if_true, if_false, Int.reduceEq, Int.reduceLT, Int.reduceLE, Int.reduceAdd, Int.reduceSub, Int.reduceMul, Int.reduceNeg, Int.reduceToNat, decide_true, decide_false, Nat.reduceBEq, he, List.take_succ_cons, List.take_zero, List.headD_cons]
            refine afs (sg ?_)
            refine afs (sg ?_)
            refine afs (sg ?_)
            refine nx ?_
            refine rg (sg ?_)
            simp (disch := omega) only [wrap_succ]
            refine ln (l.length - (i + 1)) [1] ?_ ?_
            · omega
            refine ⟨i + 1, by omega, by omega, ?_⟩
            simp only [go_sem, Nat.reduceAdd, Nat.reduceSub, Nat.reduceMul, Nat.reduceLT, Nat.reduceLeDiff, Nat.reduceEqDiff, reduceIte, reduceCtorEq, if_true, if_false, Int.reduceEq, Int.reduceLT, Int.reduceLE, Int.reduceAdd, Int.reduceSub, Int.reduceMul, Int.reduceNeg, Int.reduceToNat, decide_true, decide_false, Nat.reduceBEq, St.ids, upto, arr_sub, hwi, hb, hB, Bool.false_or, Bool.true_or]
          · refine afs (sg ?_)
            refine And.intro (by first | assumption | omega | rfl | trivial) ?_
            refine afs (sg ?_)
            simp only [go_sem, Nat.reduceAdd, Nat.reduceSub, Nat.reduceMul, Nat.reduceLT, Nat.reduceLeDiff, Nat.reduceEqDiff, reduceIte, reduceCtorEq, if_true, if_false, Int.reduceEq, Int.reduceLT, Int.reduceLE, Int.reduceAdd, Int.reduceSub, Int.reduceMul, Int.reduceNeg, Int.reduceToNat, decide_true, decide_false, Nat.reduceBEq, he, List.take_succ_cons, List.take_zero, List.headD_cons]
            refine afs (sg ?_)
            refine afs (sg ?_)
            refine afs (sg ?_)
            refine nx ?_
            refine rg (sg ?_)
            simp (disch := omega) only [wrap_succ]
            refine ln (l.length - (i + 1)) [1] ?_ ?_
            · omega
            refine ⟨i + 1, by omega, by omega, ?_⟩
            simp only [go_sem, Nat.reduceAdd, Nat.reduceSub, Nat.reduceMul, Nat.reduceLT, Nat.reduceLeDiff, Nat.reduceEqDiff, reduceIte, reduceCtorEq, if_true, if_false, Int.reduceEq, Int.reduceLT, Int.reduceLE, Int.reduceAdd, Int.reduceSub, Int.reduceMul, Int.reduceNeg, Int.reduceToNat, decide_true, decide_false, Nat.reduceBEq, St.ids, upto, arr_sub, hwi, hb, hB, Bool.false_or, Bool.true_or]
        · refine dfs (.pure 0 <| .pure 1 <| .pure 2 <| .pure 3 <| .pure 4 <| .pure 6 <| .two 5 7 (.one 7 <| .pure 8 <| .pure 9 <| .pure 10 <| .nil) (.one 5 <| .pure 8 <| .pure 9 <| .pure 10 <| .nil)) [] ?_
          refine afs (sg ?_)
          refine afs (sg ?_)
          refine afs (sg ?_)
          refine afs (sg ?_)
          refine afs (sg ?_)
          refine afs (sg ?_)
          refine afs (sg ?_)
          refine ⟨?_, ?_⟩
          · refine afs (sg ?_)
            refine afs (sg ?_)
            refine afs (sg ?_)
            refine afs (sg ?_)
            refine afs (sg ?_)
            refine nx ?_
            refine rg (sg ?_)
            simp (disch := omega) only [wrap_succ]
            simp only [go_sem, Nat.reduceAdd, Nat.reduceSub, Nat.reduceMul, Nat.reduceLT, Nat.reduceLeDiff, Nat.reduceEqDiff, reduceIte, reduceCtorEq, if_true, if_false, Int.reduceEq, Int.reduceLT, Int.reduceLE, Int.reduceAdd, Int.reduceSub, Int.reduceMul, Int.reduceNeg, Int.reduceToNat, decide_true, decide_false, Nat.reduceBEq, he, List.take_succ_cons, List.take_zero, List.headD_cons]
            refine ln (l.length - (i + 1)) [1] ?_ ?_
            · omega
            refine ⟨i + 1, by omega, by omega, ?_⟩
            simp only [go_sem, Nat.reduceAdd, Nat.reduceSub, Nat.reduceMul, Nat.reduceLT, Nat.reduceLeDiff, Nat.reduceEqDiff, reduceIte, reduceCtorEq, if_true, if_false, Int.reduceEq, Int.reduceLT, Int.reduceLE, Int.reduceAdd, Int.reduceSub, Int.reduceMul, Int.reduceNeg, Int.reduceToNat, decide_true, decide_false, Nat.reduceBEq, St.ids, upto, arr_sub, hwi, hb, hB, Bool.false_or, Bool.true_or]
          · refine afs (sg ?_)
            refine afs (sg ?_)
            refine afs (sg ?_)
            refine afs (sg ?_)
            refine afs (sg ?_)
            refine nx ?_
            refine rg (sg ?_)
            simp (disch := omega) only [wrap_succ]
            simp only [go_sem, Nat.reduceAdd, Nat.reduceSub, Nat.reduceMul, Nat.reduceLT, Nat.reduceLeDiff, Nat.reduceEqDiff, reduceIte, reduceCtorEq, if_true, if_false, Int.reduceEq, Int.reduceLT, Int.reduceLE, Int.reduceAdd, Int.reduceSub, Int.reduceMul, Int.reduceNeg, Int.reduceToNat, decide_true, decide_false, Nat.reduceBEq, he, List.take_succ_cons, List.take_zero, List.headD_cons]
            refine ln (l.length - (i + 1)) [1] ?_ ?_
            · omega
            refine ⟨i + 1, by omega, by omega, ?_⟩
            simp only [go_sem, Nat.reduceAdd, Nat.reduceSub, Nat.reduceMul, Nat.reduceLT, Nat.reduceLeDiff, Nat.reduceEqDiff, reduceIte, reduceCtorEq, if_true, if_false, Int.reduceEq, Int.reduceLT, Int.reduceLE, Int.reduceAdd, Int.reduceSub, Int.reduceMul, Int.reduceNeg, Int.reduceToNat, decide_true, decide_false, Nat.reduceBEq, St.ids, upto, arr_sub, hwi, hb, hB, Bool.false_or, Bool.true_or]
      · have hil : i = l.length := by omega
        rw [hil, List.take_length]
        cases hB : l.any fun x => decide (x = p.col)
        · have hA : addC l p.col = l ++ [p.col] := addC_yes ⟨h1, fun h => by rw [(any_mem l p.col).2 h] at hB; cases hB⟩
          refine xt (sg ?_)
          refine lx (g := sg ?_)
          refine nx ?_
          refine sq fun _ _ => ?_
          refine rg (sg ?_)
          refine nx ?_
          refine ct (hx := ?_)
          refine rg (sg ?_)
          refine And.intro (by first | assumption | omega | rfl | trivial) ?_
          refine And.intro (by simp only [maxLen]; omega) ?_
          refine nx ?_
          refine sq fun _ _ => ?_
          refine sq fun _ _ => ?_
          refine rg (sg ?_)
          refine nx ?_
          refine bl ?_
          have hE : List.map (fun x => lc (cSt x)) l ++ [[xS p.col]] = List.map (fun x => lc (cSt x)) (l ++ [p.col]) := by simp [lc, cSt]
          rw [hA] at hcE hcl
          refine lp [0, 3, 7] [1, 3] (fun k σ => ∃ (i : Nat) (l' : List ByteArray) (r0 : A) (b0 : B) (X : List B), k = p.kids.length - i ∧ i ≤ p.kids.length ∧ colsP p l = colsL (p.kids.drop i) l' ∧ l'.length + cnts (p.kids.drop i) ≤ 500 ∧ ((l' = l ∧ r0 = xOwn 0 1 0 l'.length ∧ b0 = arS l' ∧ X = []) ∨ (r0 = xOwn 2 1 0 l'.length ∧ b0 = .hid ∧ X = [arS l'])) ∧ σ = ⟨49, 1, [(0, r0), (3, xPtr 1 0), (7, A.int .i64 i)], b0 :: .var [xI p.op, xS p.col, xI p.cmp, xB p.val.nl, xI p.val.i, xS p.val.s, xI p.kind, xS p.pat, .c (.sl p.kids.length 9 (elemsOf (p.kids.map cPr)))] 26 :: X⟩) p.kids.length ?_ ?_
          · refine ⟨0, (l ++ [p.col]), _, _, _, by omega, by omega, hcE, hcl, .inr ⟨rfl, rfl, rfl⟩, ?_⟩
            simp only [go_sem, Nat.reduceAdd, Nat.reduceSub, Nat.reduceMul, Nat.reduceLT, Nat.reduceLeDiff, Nat.reduceEqDiff, reduceIte, reduceCtorEq, if_true, if_false, Int.reduceEq, Int.reduceLT, Int.reduceLE, Int.reduceAdd, Int.reduceSub, Int.reduceMul, Int.reduceNeg, Int.reduceToNat, decide_true, decide_false, Nat.reduceBEq, St.ids, upto, arr_sub, hE, lc_sub, arS, List.map_append, List.map_cons, List.map_nil, List.length_append]
          · rintro k σ' ⟨i, l', r0, b0, X, hk, hi, hev, hll, hX, rfl⟩ Q1 hQ1
            refine sq fun _ _ => ?_
            refine sq fun _ _ => ?_
            refine rg (sg ?_)
            refine nx ?_
            refine cb (fun h => ?_) (fun h => ?_)
            · have hin : i < p.kids.length := by omega
              have hwi : IntKind.i64.wrap ((i : Int) + 1) = ((i + 1 : Nat) : Int) := wrap_succ (by omega)
              have hee := el_at (f := cPr) hin
              have hdr : p.kids.drop i = p.kids[i] :: p.kids.drop (i + 1) := List.drop_eq_getElem_cons hin
              have hkm : p.kids[i] ∈ p.kids := List.getElem_mem hin
              rw [hdr] at hev hll
              rw [colsL_cons] at hev
              simp only [cnts] at hll
              have hkl := colsP_len p.kids[i] l'
              rcases hX with ⟨hl', rfl, rfl, rfl⟩ | ⟨rfl, rfl, rfl⟩
              · refine sk (sg ?_)
                refine nx ?_
                refine sq fun _ _ => ?_
                refine bl ?_
                refine rg (sg ?_)
                refine and_assoc.2 ?_
                refine And.intro (by first | assumption | omega | rfl | trivial) ?_
                refine And.intro (by first | assumption | omega | rfl | trivial) ?_
                refine cl [0] (sg ?_)
                simp (disch := omega) only [el_at]
                refine sg ?_
                refine (ih p.kids[i] hkm l' (hp.kid _ hkm) (by omega)).mono ?_
                rintro r bx (⟨hB, rfl, rfl⟩ | ⟨rfl, rfl⟩)
                · refine sg ?_
                  refine nx ?_
                  refine rg (sg ?_)
                  simp (disch := omega) only [wrap_succ]
                  rw [hB] at hev
                  refine ln (p.kids.length - (i + 1)) [1] ?_ ?_
                  · omega
                  refine ⟨i + 1, l', _, _, _, rfl, by omega, hev, by omega, .inl ⟨hl', rfl, rfl, rfl⟩, ?_⟩
                  simp only [go_sem, Nat.reduceAdd, Nat.reduceSub, Nat.reduceMul, Nat.reduceLT, Nat.reduceLeDiff, Nat.reduceEqDiff, reduceIte, reduceCtorEq, if_true, if_false, Int.reduceEq, Int.reduceLT, Int.reduceLE, Int.reduceAdd, Int.reduceSub, Int.reduceMul, Int.reduceNeg, Int.reduceToNat, decide_true, decide_false, Nat.reduceBEq, St.ids, upto, arr_sub, hwi]
                · refine sg ?_
                  refine nx ?_
                  refine rg (sg ?_)
                  simp (disch := omega) only [wrap_succ]
                  refine ln (p.kids.length - (i + 1)) [1, 2] ?_ ?_
                  · omega
                  refine ⟨i + 1, _, _, _, _, rfl, by omega, hev, by omega, .inr ⟨rfl, rfl, rfl⟩, ?_⟩
                  simp only [go_sem, Nat.reduceAdd, Nat.reduceSub, Nat.reduceMul, Nat.reduceLT, Nat.reduceLeDiff, Nat.reduceEqDiff, reduceIte, reduceCtorEq, if_true, if_false, Int.reduceEq, Int.reduceLT, Int.reduceLE, Int.reduceAdd, Int.reduceSub, Int.reduceMul, Int.reduceNeg, Int.reduceToNat, decide_true, decide_false, Nat.reduceBEq, St.ids, upto, arr_sub, hwi]
              · refine sk (sg ?_)
                refine nx ?_
                refine sq fun _ _ => ?_
                refine bl ?_
                refine rg (sg ?_)
                refine and_assoc.2 ?_
                refine And.intro (by first | assumption | omega | rfl | trivial) ?_
                refine And.intro (by first | assumption | omega | rfl | trivial) ?_
                refine cl [2] (sg ?_)
                simp (disch := omega) only [el_at]
                refine sg ?_
                refine (ih p.kids[i] hkm l' (hp.kid _ hkm) (by omega)).mono ?_
                rintro r bx (⟨hB, rfl, rfl⟩ | ⟨rfl, rfl⟩)
                · refine sg ?_
                  refine nx ?_
                  refine rg (sg ?_)
                  simp (disch := omega) only [wrap_succ]
                  rw [hB] at hev
                  refine ln (p.kids.length - (i + 1)) [1, 2] ?_ ?_
                  · omega
                  refine ⟨i + 1, l', _, _, _, rfl, by omega, hev, by omega, .inr ⟨rfl, rfl, rfl⟩, ?_⟩
                  simp only [go_sem, Nat.reduceAdd, Nat.reduceSub, Nat.reduceMul, Nat.reduceLT, Nat.reduceLeDiff, Nat.reduceEqDiff, reduceIte, reduceCtorEq, if_true, if_false, Int.reduceEq, Int.reduceLT, Int.reduceLE, Int.reduceAdd, Int.reduceSub, Int.reduceMul, Int.reduceNeg, Int.reduceToNat, decide_true, decide_false, Nat.reduceBEq, St.ids, upto, arr_sub, hwi]
                · refine sg ?_
                  refine nx ?_
                  refine rg (sg ?_)
                  simp (disch := omega) only [wrap_succ]
                  refine ln (p.kids.length - (i + 1)) [1, 3] ?_ ?_
                  · omega
                  refine ⟨i + 1, _, _, _, _, rfl, by omega, hev, by omega, .inr ⟨rfl, rfl, rfl⟩, ?_⟩
                  simp only [go_sem, Nat.reduceAdd, Nat.reduceSub, Nat.reduceMul, Nat.reduceLT, Nat.reduceLeDiff, Nat.reduceEqDiff, reduceIte, reduceCtorEq, if_true, if_false, Int.reduceEq, Int.reduceLT, Int.reduceLE, Int.reduceAdd, Int.reduceSub, Int.reduceMul, Int.reduceNeg, Int.reduceToNat, decide_true, decide_false, Nat.reduceBEq, St.ids, upto, arr_sub, hwi]
            · rw [List.drop_of_length_le (by omega), colsL_nil] at hev
              rcases hX with ⟨hl', rfl, rfl, rfl⟩ | ⟨rfl, rfl, rfl⟩
              · refine xt (sg ?_)
                refine lx (g := sg ?_)
                refine nx ?_
                refine sq fun _ _ => ?_
                refine rg (sg ?_)
                refine nx ?_
                refine rt ?_
                refine f1 (g := sg ?_)
                refine ax [] (.inl ⟨by rw [hev, hl'], ?_, ?_⟩)
                · simp only [go_sem, Nat.reduceAdd, Nat.reduceSub, Nat.reduceMul, Nat.reduceLT, Nat.reduceLeDiff, Nat.reduceEqDiff, reduceIte, reduceCtorEq, if_true, if_false, Int.reduceEq, Int.reduceLT, Int.reduceLE, Int.reduceAdd, Int.reduceSub, Int.reduceMul, Int.reduceNeg, Int.reduceToNat, decide_true, decide_false, Nat.reduceBEq, St.ids, upto, hl']
                · simp only [go_sem, Nat.reduceAdd, Nat.reduceSub, Nat.reduceMul, Nat.reduceLT, Nat.reduceLeDiff, Nat.reduceEqDiff, reduceIte, reduceCtorEq, if_true, if_false, Int.reduceEq, Int.reduceLT, Int.reduceLE, Int.reduceAdd, Int.reduceSub, Int.reduceMul, Int.reduceNeg, Int.reduceToNat, decide_true, decide_false, Nat.reduceBEq, St.ids, upto, arr_sub, hl']
              · refine xt (sg ?_)
                refine lx (g := sg ?_)
                refine nx ?_
                refine sq fun _ _ => ?_
                refine rg (sg ?_)
                refine nx ?_
                refine rt ?_
                refine f1 (g := sg ?_)
                refine ax [2] (.inr ⟨?_, ?_⟩)
                · simp only [go_sem, Nat.reduceAdd, Nat.reduceSub, Nat.reduceMul, Nat.reduceLT, Nat.reduceLeDiff, Nat.reduceEqDiff, reduceIte, reduceCtorEq, if_true, if_false, Int.reduceEq, Int.reduceLT, Int.reduceLE, Int.reduceAdd, Int.reduceSub, Int.reduceMul, Int.reduceNeg, Int.reduceToNat, decide_true, decide_false, Nat.reduceBEq, St.ids, upto, hev]
                · simp only [go_sem, Nat.reduceAdd, Nat.reduceSub, Nat.reduceMul, Nat.reduceLT, Nat.reduceLeDiff, Nat.reduceEqDiff, reduceIte, reduceCtorEq, if_true, if_false, Int.reduceEq, Int.reduceLT, Int.reduceLE, Int.reduceAdd, Int.reduceSub, Int.reduceMul, Int.reduceNeg, Int.reduceToNat, decide_true, decide_false, Nat.reduceBEq, St.ids, upto, arr_sub, hev]
        · have hA : addC l p.col = l := addC_no fun h => h.2 ((any_mem l p.col).1 hB)
          refine xt (sg ?_)
          refine lx (g := sg ?_)
          refine nx ?_
          refine sq fun _ _ => ?_
          refine rg (sg ?_)
          refine nx ?_
          refine cf (hy := ?_)
          refine sk (sg ?_)
          refine nx ?_
          refine sq fun _ _ => ?_
          refine sq fun _ _ => ?_
          refine rg (sg ?_)
          refine nx ?_
          refine bl ?_
          rw [hA] at hcE hcl
          refine lp [0, 3, 7] [1] (fun k σ => ∃ (i : Nat) (l' : List ByteArray) (r0 : A) (b0 : B) (X : List B), k = p.kids.length - i ∧ i ≤ p.kids.length ∧ colsP p l = colsL (p.kids.drop i) l' ∧ l'.length + cnts (p.kids.drop i) ≤ 500 ∧ ((l' = l ∧ r0 = xOwn 0 1 0 l'.length ∧ b0 = arS l' ∧ X = []) ∨ (r0 = xOwn 2 1 0 l'.length ∧ b0 = .hid ∧ X = [arS l'])) ∧ σ = ⟨49, 1, [(0, r0), (3, xPtr 1 0), (7, A.int .i64 i)], b0 :: .var [xI p.op, xS p.col, xI p.cmp, xB p.val.nl, xI p.val.i, xS p.val.s, xI p.kind, xS p.pat, .c (.sl p.kids.length 9 (elemsOf (p.kids.map cPr)))] 26 :: X⟩) p.kids.length ?_ ?_
          · refine ⟨0, l, _, _, _, by omega, by omega, hcE, hcl, .inl ⟨rfl, rfl, rfl, rfl⟩, ?_⟩
            simp only [go_sem, Nat.reduceAdd, Nat.reduceSub, Nat.reduceMul, Nat.reduceLT, Nat.reduceLeDiff, Nat.reduceEqDiff, reduceIte, reduceCtorEq, if_true, if_false, Int.reduceEq, Int.reduceLT, Int.reduceLE, Int.reduceAdd, Int.reduceSub, Int.reduceMul, Int.reduceNeg, Int.reduceToNat, decide_true, decide_false, Nat.reduceBEq, St.ids, upto, arr_sub, hA]
          · rintro k σ' ⟨i, l', r0, b0, X, hk, hi, hev, hll, hX, rfl⟩ Q1 hQ1
            refine sq fun _ _ => ?_
            refine sq fun _ _ => ?_
            refine rg (sg ?_)
            refine nx ?_
            refine cb (fun h => ?_) (fun h => ?_)
            · have hin : i < p.kids.length := by omega
              have hwi : IntKind.i64.wrap ((i : Int) + 1) = ((i + 1 : Nat) : Int) := wrap_succ (by omega)
              have hee := el_at (f := cPr) hin
              have hdr : p.kids.drop i = p.kids[i] :: p.kids.drop (i + 1) := List.drop_eq_getElem_cons hin
              have hkm : p.kids[i] ∈ p.kids := List.getElem_mem hin
              rw [hdr] at hev hll
              rw [colsL_cons] at hev
              simp only [cnts] at hll
              have hkl := colsP_len p.kids[i] l'
              rcases hX with ⟨hl', rfl, rfl, rfl⟩ | ⟨rfl, rfl, rfl⟩
              · refine sk (sg ?_)
                refine nx ?_
                refine sq fun _ _ => ?_
                refine bl ?_
                refine rg (sg ?_)
                refine and_assoc.2 ?_
                refine And.intro (by first | assumption | omega | rfl | trivial) ?_
                refine And.intro (by first | assumption | omega | rfl | trivial) ?_
                refine cl [0] (sg ?_)
                simp (disch := omega) only [el_at]
                refine sg ?_
                refine (ih p.kids[i] hkm l' (hp.kid _ hkm) (by omega)).mono ?_
                rintro r bx (⟨hB, rfl, rfl⟩ | ⟨rfl, rfl⟩)
                · refine sg ?_
                  refine nx ?_
                  refine rg (sg ?_)
                  simp (disch := omega) only [wrap_succ]
                  rw [hB] at hev
                  refine ln (p.kids.length - (i + 1)) [1] ?_ ?_
                  · omega
                  refine ⟨i + 1, l', _, _, _, rfl, by omega, hev, by omega, .inl ⟨hl', rfl, rfl, rfl⟩, ?_⟩
                  simp only [go_sem, Nat.reduceAdd, Nat.reduceSub, Nat.reduceMul, Nat.reduceLT, Nat.reduceLeDiff, Nat.reduceEqDiff, reduceIte, reduceCtorEq, if_true, if_false, Int.reduceEq, Int.reduceLT, Int.reduceLE, Int.reduceAdd, Int.reduceSub, Int.reduceMul, Int.reduceNeg, Int.reduceToNat, decide_true, decide_false, Nat.reduceBEq, St.ids, upto, arr_sub, hwi]
                · refine sg ?_
                  refine nx ?_
                  refine rg (sg ?_)
                  simp (disch := omega) only [wrap_succ]
                  refine ln (p.kids.length - (i + 1)) [1, 2] ?_ ?_
                  · omega
                  refine ⟨i + 1, _, _, _, _, rfl, by omega, hev, by omega, .inr ⟨rfl, rfl, rfl⟩, ?_⟩
                  simp only [go_sem, Nat.reduceAdd, Nat.reduceSub, Nat.reduceMul, Nat.reduceLT, Nat.reduceLeDiff, Nat.reduceEqDiff, reduceIte, reduceCtorEq, if_true, if_false, Int.reduceEq, Int.reduceLT, Int.reduceLE, Int.reduceAdd, Int.reduceSub, Int.reduceMul, Int.reduceNeg, Int.reduceToNat, decide_true, decide_false, Nat.reduceBEq, St.ids, upto, arr_sub, hwi]
              · refine sk (sg ?_)
                refine nx ?_
                refine sq fun _ _ => ?_
                refine bl ?_
                refine rg (sg ?_)
                refine and_assoc.2 ?_
                refine And.intro (by first | assumption | omega | rfl | trivial) ?_
                refine And.intro (by first | assumption | omega | rfl | trivial) ?_
                refine cl [2] (sg ?_)
                simp (disch := omega) only [el_at]
                refine sg ?_
                refine (ih p.kids[i] hkm l' (hp.kid _ hkm) (by omega)).mono ?_
                rintro r bx (⟨hB, rfl, rfl⟩ | ⟨rfl, rfl⟩)
                · refine sg ?_
                  refine nx ?_
                  refine rg (sg ?_)
                  simp (disch := omega) only [wrap_succ]
                  rw [hB] at hev
                  refine ln (p.kids.length - (i + 1)) [1, 2] ?_ ?_
                  · omega
                  refine ⟨i + 1, l', _, _, _, rfl, by omega, hev, by omega, .inr ⟨rfl, rfl, rfl⟩, ?_⟩
                  simp only [go_sem, Nat.reduceAdd, Nat.reduceSub, Nat.reduceMul, Nat.reduceLT, Nat.reduceLeDiff, Nat.reduceEqDiff, reduceIte, reduceCtorEq, if_true, if_false, Int.reduceEq, Int.reduceLT, Int.reduceLE, Int.reduceAdd, Int.reduceSub, Int.reduceMul, Int.reduceNeg, Int.reduceToNat, decide_true, decide_false, Nat.reduceBEq, St.ids, upto, arr_sub, hwi]
                · refine sg ?_
                  refine nx ?_
                  refine rg (sg ?_)
                  simp (disch := omega) only [wrap_succ]
                  refine ln (p.kids.length - (i + 1)) [1, 3] ?_ ?_
                  · omega
                  refine ⟨i + 1, _, _, _, _, rfl, by omega, hev, by omega, .inr ⟨rfl, rfl, rfl⟩, ?_⟩
                  simp only [go_sem, Nat.reduceAdd, Nat.reduceSub, Nat.reduceMul, Nat.reduceLT, Nat.reduceLeDiff, Nat.reduceEqDiff, reduceIte, reduceCtorEq, if_true, if_false, Int.reduceEq, Int.reduceLT, Int.reduceLE, Int.reduceAdd, Int.reduceSub, Int.reduceMul, Int.reduceNeg, Int.reduceToNat, decide_true, decide_false, Nat.reduceBEq, St.ids, upto, arr_sub, hwi]
            · rw [List.drop_of_length_le (by omega), colsL_nil] at hev
              rcases hX with ⟨hl', rfl, rfl, rfl⟩ | ⟨rfl, rfl, rfl⟩
              · refine xt (sg ?_)
                refine lx (g := sg ?_)
                refine nx ?_
                refine sq fun _ _ => ?_
                refine rg (sg ?_)
                refine nx ?_
                refine rt ?_
                refine f1 (g := sg ?_)
                refine ax [] (.inl ⟨by rw [hev, hl'], ?_, ?_⟩)
                · simp only [go_sem, Nat.reduceAdd, Nat.reduceSub, Nat.reduceMul, Nat.reduceLT, Nat.reduceLeDiff, Nat.reduceEqDiff, reduceIte, reduceCtorEq, if_true, if_false, Int.reduceEq, Int.reduceLT, Int.reduceLE, Int.reduceAdd, Int.reduceSub, Int.reduceMul, Int.reduceNeg, Int.reduceToNat, decide_true, decide_false, Nat.reduceBEq, St.ids, upto, hl']
                · simp only [go_sem, Nat.reduceAdd, Nat.reduceSub, Nat.reduceMul, Nat.reduceLT, Nat.reduceLeDiff, Nat.reduceEqDiff, reduceIte, reduceCtorEq, if_true, if_false, Int.reduceEq, Int.reduceLT, Int.reduceLE, Int.reduceAdd, Int.reduceSub, Int.reduceMul, Int.reduceNeg, Int.reduceToNat, decide_true, decide_false, Nat.reduceBEq, St.ids, upto, arr_sub, hl']
              · refine xt (sg ?_)
                refine lx (g := sg ?_)
                refine nx ?_
                refine sq fun _ _ => ?_
                refine rg (sg ?_)
                refine nx ?_
                refine rt ?_
                refine f1 (g := sg ?_)
                refine ax [2] (.inr ⟨?_, ?_⟩)
                · simp only [go_sem, Nat.reduceAdd, Nat.reduceSub, Nat.reduceMul, Nat.reduceLT, Nat.reduceLeDiff, Nat.reduceEqDiff, reduceIte, reduceCtorEq, if_true, if_false, Int.reduceEq, Int.reduceLT, Int.reduceLE, Int.reduceAdd, Int.reduceSub, Int.reduceMul, Int.reduceNeg, Int.reduceToNat, decide_true, decide_false, Nat.reduceBEq, St.ids, upto, hev]
                · simp only [go_sem, Nat.reduceAdd, Nat.reduceSub, Nat.reduceMul, Nat.reduceLT, Nat.reduceLeDiff, Nat.reduceEqDiff, reduceIte, reduceCtorEq, if_true, if_false, Int.reduceEq, Int.reduceLT, Int.reduceLE, Int.reduceAdd, Int.reduceSub, Int.reduceMul, Int.reduceNeg, Int.reduceToNat, decide_true, decide_false, Nat.reduceBEq, St.ids, upto, arr_sub, hev]
  · have hA : addC l p.col = l := addC_no fun h => h1 h.1
    refine sk (sg ?_)
    refine nx ?_
    refine sq fun _ _ => ?_
    refine sq fun _ _ => ?_
    refine rg (sg ?_)
    refine nx ?_
    refine bl ?_
    rw [hA] at hcE hcl
    refine lp [0, 3, 7] [1] (fun k σ => ∃ (i : Nat) (l' : List ByteArray) (r0 : A) (b0 : B) (X : List B), k = p.kids.length - i ∧ i ≤ p.kids.length ∧ colsP p l = colsL (p.kids.drop i) l' ∧ l'.length + cnts (p.kids.drop i) ≤ 500 ∧ ((l' = l ∧ r0 = xOwn 0 1 0 l'.length ∧ b0 = arS l' ∧ X = []) ∨ (r0 = xOwn 2 1 0 l'.length ∧ b0 = .hid ∧ X = [arS l'])) ∧ σ = ⟨49, 1, [(0, r0), (3, xPtr 1 0), (7, A.int .i64 i)], b0 :: .var [xI p.op, xS p.col, xI p.cmp, xB p.val.nl, xI p.val.i, xS p.val.s, xI p.kind, xS p.pat, .c (.sl p.kids.length 9 (elemsOf (p.kids.map cPr)))] 26 :: X⟩) p.kids.length ?_ ?_
    · refine ⟨0, l, _, _, _, by omega, by omega, hcE, hcl, .inl ⟨rfl, rfl, rfl, rfl⟩, ?_⟩
      simp only [go_sem, Nat.reduceAdd, Nat.reduceSub, Nat.reduceMul, Nat.reduceLT, Nat.reduceLeDiff, Nat.reduceEqDiff, reduceIte, reduceCtorEq, if_true, if_false, Int.reduceEq, Int.reduceLT, Int.reduceLE, Int.reduceAdd, Int.reduceSub, Int.reduceMul, Int.reduceNeg, Int.reduceToNat, decide_true, decide_false, Nat.reduceBEq, St.ids, upto, arr_sub, hA]
    · rintro k σ' ⟨i, l', r0, b0, X, hk, hi, hev, hll, hX, rfl⟩ Q1 hQ1
      refine sq fun _ _ => ?_
      refine sq fun _ _ => ?_
      refine rg (sg ?_)
      refine nx ?_
      refine cb (fun h => ?_) (fun h => ?_)
      · have hin : i < p.kids.length := by omega
        have hwi : IntKind.i64.wrap ((i : Int) + 1) = ((i + 1 : Nat) : Int) := wrap_succ (by omega)
        have hee := el_at (f := cPr) hin
        have hdr : p.kids.drop i = p.kids[i] :: p.kids.drop (i + 1) := List.drop_eq_getElem_cons hin
        have hkm : p.kids[i] ∈ p.kids := List.getElem_mem hin
        rw [hdr] at hev hll
        rw [colsL_cons] at hev
        simp only [cnts] at hll
        have hkl := colsP_len p.kids[i] l'
        rcases hX with ⟨hl', rfl, rfl, rfl⟩ | ⟨rfl, rfl, rfl⟩
        · refine sk (sg ?_)
          refine nx ?_
          refine sq fun _ _ => ?_
          refine bl ?_
          refine rg (sg ?_)
          refine and_assoc.2 ?_
          refine And.intro (by first | assumption | omega | rfl | trivial) ?_
          refine And.intro (by first | assumption | omega | rfl | trivial) ?_
          refine cl [0] (sg ?_)
          simp (disch := omega) only [el_at]
          refine sg ?_
          refine (ih p.kids[i] hkm l' (hp.kid _ hkm) (by omega)).mono ?_
          rintro r bx (⟨hB, rfl, rfl⟩ | ⟨rfl, rfl⟩)
          · refine sg ?_
            refine nx ?_
            refine rg (sg ?_)
            simp (disch := omega) only [wrap_succ]
            rw [hB] at hev
            refine ln (p.kids.length - (i + 1)) [1] ?_ ?_
            · omega
            refine ⟨i + 1, l', _, _, _, rfl, by omega, hev, by omega, .inl ⟨hl', rfl, rfl, rfl⟩, ?_⟩
            simp only [go_sem, Nat.reduceAdd, Nat.reduceSub, Nat.reduceMul, Nat.reduceLT, Nat.reduceLeDiff, Nat.reduceEqDiff, reduceIte, reduceCtorEq, if_true, if_false, Int.reduceEq, Int.reduceLT, Int.reduceLE, Int.reduceAdd, Int.reduceSub, Int.reduceMul, Int.reduceNeg, Int.reduceToNat, decide_true, decide_false, Nat.reduceBEq, St.ids, upto, arr_sub, hwi]
          · refine sg ?_
            refine nx ?_
            refine rg (sg ?_)
            simp (disch := omega) only [wrap_succ]
            refine ln (p.kids.length - (i + 1)) [1, 2] ?_ ?_
            · omega
            refine ⟨i + 1, _, _, _, _, rfl, by omega, hev, by omega, .inr ⟨rfl, rfl, rfl⟩, ?_⟩
            simp only [go_sem, Nat.reduceAdd, Nat.reduceSub, Nat.reduceMul, Nat.reduceLT, Nat.reduceLeDiff, Nat.reduceEqDiff, reduceIte, reduceCtorEq, if_true, if_false, Int.reduceEq, Int.reduceLT, Int.reduceLE, Int.reduceAdd, Int.reduceSub, Int.reduceMul, Int.reduceNeg, Int.reduceToNat, decide_true, decide_false, Nat.reduceBEq, St.ids, upto, arr_sub, hwi]
        · refine sk (sg ?_)
          refine nx ?_
          refine sq fun _ _ => ?_
          refine bl ?_
          refine rg (sg ?_)
          refine and_assoc.2 ?_
          refine And.intro (by first | assumption | omega | rfl | trivial) ?_
          refine And.intro (by first | assumption | omega | rfl | trivial) ?_
          refine cl [2] (sg ?_)
          simp (disch := omega) only [el_at]
          refine sg ?_
          refine (ih p.kids[i] hkm l' (hp.kid _ hkm) (by omega)).mono ?_
          rintro r bx (⟨hB, rfl, rfl⟩ | ⟨rfl, rfl⟩)
          · refine sg ?_
            refine nx ?_
            refine rg (sg ?_)
            simp (disch := omega) only [wrap_succ]
            rw [hB] at hev
            refine ln (p.kids.length - (i + 1)) [1, 2] ?_ ?_
            · omega
            refine ⟨i + 1, l', _, _, _, rfl, by omega, hev, by omega, .inr ⟨rfl, rfl, rfl⟩, ?_⟩
            simp only [go_sem, Nat.reduceAdd, Nat.reduceSub, Nat.reduceMul, Nat.reduceLT, Nat.reduceLeDiff, Nat.reduceEqDiff, reduceIte, reduceCtorEq, if_true, if_false, Int.reduceEq, Int.reduceLT, Int.reduceLE, Int.reduceAdd, Int.reduceSub, Int.reduceMul, Int.reduceNeg, Int.reduceToNat, decide_true, decide_false, Nat.reduceBEq, St.ids, upto, arr_sub, hwi]
          · refine sg ?_
            refine nx ?_
            refine rg (sg ?_)
            simp (disch := omega) only [wrap_succ]
            refine ln (p.kids.length - (i + 1)) [1, 3] ?_ ?_
            · omega
            refine ⟨i + 1, _, _, _, _, rfl, by omega, hev, by omega, .inr ⟨rfl, rfl, rfl⟩, ?_⟩
            simp only [go_sem, Nat.reduceAdd, Nat.reduceSub, Nat.reduceMul, Nat.reduceLT, Nat.reduceLeDiff, Nat.reduceEqDiff, reduceIte, reduceCtorEq, if_true, if_false, Int.reduceEq, Int.reduceLT, Int.reduceLE, Int.reduceAdd, Int.reduceSub, Int.reduceMul, Int.reduceNeg, Int.reduceToNat, decide_true, decide_false, Nat.reduceBEq, St.ids, upto, arr_sub, hwi]
      · rw [List.drop_of_length_le (by omega), colsL_nil] at hev
        rcases hX with ⟨hl', rfl, rfl, rfl⟩ | ⟨rfl, rfl, rfl⟩
        · refine xt (sg ?_)
          refine lx (g := sg ?_)
          refine nx ?_
          refine sq fun _ _ => ?_
          refine rg (sg ?_)
          refine nx ?_
          refine rt ?_
          refine f1 (g := sg ?_)
          refine ax [] (.inl ⟨by rw [hev, hl'], ?_, ?_⟩)
          · simp only [go_sem, Nat.reduceAdd, Nat.reduceSub, Nat.reduceMul, Nat.reduceLT, Nat.reduceLeDiff, Nat.reduceEqDiff, reduceIte, reduceCtorEq, if_true, if_false, Int.reduceEq, Int.reduceLT, Int.reduceLE, Int.reduceAdd, Int.reduceSub, Int.reduceMul, Int.reduceNeg, Int.reduceToNat, decide_true, decide_false, Nat.reduceBEq, St.ids, upto, hl']
          · simp only [go_sem, Nat.reduceAdd, Nat.reduceSub, Nat.reduceMul, Nat.reduceLT, Nat.reduceLeDiff, Nat.reduceEqDiff, reduceIte, reduceCtorEq, if_true, if_false, Int.reduceEq, Int.reduceLT, Int.reduceLE, Int.reduceAdd, Int.reduceSub, Int.reduceMul, Int.reduceNeg, Int.reduceToNat, decide_true, decide_false, Nat.reduceBEq, St.ids, upto, arr_sub, hl']
        · refine xt (sg ?_)
          refine lx (g := sg ?_)
          refine nx ?_
          refine sq fun _ _ => ?_
          refine rg (sg ?_)
          refine nx ?_
          refine rt ?_
          refine f1 (g := sg ?_)
          refine ax [2] (.inr ⟨?_, ?_⟩)
          · simp only [go_sem, Nat.reduceAdd, Nat.reduceSub, Nat.reduceMul, Nat.reduceLT, Nat.reduceLeDiff, Nat.reduceEqDiff, reduceIte, reduceCtorEq, if_true, if_false, Int.reduceEq, Int.reduceLT, Int.reduceLE, Int.reduceAdd, Int.reduceSub, Int.reduceMul, Int.reduceNeg, Int.reduceToNat, decide_true, decide_false, Nat.reduceBEq, St.ids, upto, hev]
          · simp only [go_sem, Nat.reduceAdd, Nat.reduceSub, Nat.reduceMul, Nat.reduceLT, Nat.reduceLeDiff, Nat.reduceEqDiff, reduceIte, reduceCtorEq, if_true, if_false, Int.reduceEq, Int.reduceLT, Int.reduceLE, Int.reduceAdd, Int.reduceSub, Int.reduceMul, Int.reduceNeg, Int.reduceToNat, decide_true, decide_false, Nat.reduceBEq, St.ids, upto, arr_sub, hev]
theorem c13n : ∀ (p : Pr), Sm p → p.cnt ≤ 500 → PC Tryd.prog 13 [.one (.c (.v (.slice none 0 0))), aPr p] [] (fun r bx => (colsP p [] = [] ∧ r = .one (.c (.v (.slice none 0 0))) ∧ bx = []) ∨ (r = xOwn 0 1 0 (colsP p []).length ∧ bx = [arS (colsP p [])])) := by
  refine Pr.by_kids fun p ih hp hcn => ?_
  have hlen := hp.len
  have hcol := hp.col
  have hce := cnt_eq p
  have hc1 : p.col.size ≤ 1000 := by omega
  have hl1 : p.kids.length ≤ 1000 := by omega
  have hcE : colsP p [] = colsL (p.kids.drop 0) (addC [] p.col) := colsP_eq p []
  have hcl : (addC [] p.col).length + cnts (p.kids.drop 0) ≤ 500 := by
    have := addC_len [] p.col
    rw [List.drop_zero]
    simp only [List.length_nil] at this
    omega
  refine enter (rs := [.tmp 4]) mx Tryd.func13 Tryd.ntmps13 fun Q0 hQ0 => ?_
  refine sq fun _ _ => ?_
  refine rg (sg ?_)
  refine nx ?_
  refine sq fun _ _ => ?_
  refine sq fun _ _ => ?_
  refine rg (sg ?_)
  refine nx ?_
  refine cb (fun h1 => ?_) (fun h1 => ?_)
  · refine sq fun _ _ => ?_
    refine rg (sg ?_)
    refine nx ?_
    refine sq fun _ _ => ?_
    refine sq fun _ _ => ?_
    refine rg (sg ?_)
    refine nx ?_
    refine bl ?_
    refine lp [0, 3, 5, 6] [0] (fun k σ => k = 0 ∧ σ = ⟨49, 0, [(0, .one (.c (.v (.slice none 0 0)))), (3, xPtr 0 0), (5, A.bool false), (6, A.int .i64 0)], [.var [xI p.op, xS p.col, xI p.cmp, xB p.val.nl, xI p.val.i, xS p.val.s, xI p.kind, xS p.pat, .c (.sl p.kids.length 9 (elemsOf (p.kids.map cPr)))] 26]⟩) 0 ?_ ?_
    · exact ⟨rfl, keq⟩
    · rintro k σ' ⟨hk, rfl⟩ Q1 hQ1
      refine sq fun _ _ => ?_
      refine sq fun _ _ => ?_
      refine rg (sg ?_)
      refine nx ?_
      refine cf (hy := ?_)
      refine xt (sg ?_)
      refine lx (g := sg ?_)
      refine nx ?_
      refine sq fun _ _ => ?_
      refine rg (sg ?_)
      refine nx ?_
      refine ct (hx := ?_)
      refine rg (sg ?_)
      refine nx ?_
      refine sq fun _ _ => ?_
      refine sq fun _ _ => ?_
      refine rg (sg ?_)
      refine nx ?_
      refine bl ?_
      have hA : addC [] p.col = [p.col] := addC_yes ⟨h1, by simp⟩
      rw [hA] at hcE hcl
      refine lp [0, 3, 7] [0, 2] (fun k σ => ∃ (i : Nat) (l' : List ByteArray) (r0 : A) (X : List B), k = p.kids.length - i ∧ i ≤ p.kids.length ∧ colsP p [] = colsL (p.kids.drop i) l' ∧ l'.length + cnts (p.kids.drop i) ≤ 500 ∧ ((l' = [] ∧ r0 = .one (.c (.v (.slice none 0 0))) ∧ X = []) ∨ (r0 = xOwn 1 1 0 l'.length ∧ X = [arS l'])) ∧ σ = ⟨49, 0, [(0, r0), (3, xPtr 0 0), (7, A.int .i64 i)], .var [xI p.op, xS p.col, xI p.cmp, xB p.val.nl, xI p.val.i, xS p.val.s, xI p.kind, xS p.pat, .c (.sl p.kids.length 9 (elemsOf (p.kids.map cPr)))] 26 :: X⟩) p.kids.length ?_ ?_
      · refine ⟨0, [p.col], _, _, by omega, by omega, hcE, hcl, .inr ⟨rfl, rfl⟩, ?_⟩
        simp only [go_sem, Nat.reduceAdd, Nat.reduceSub, Nat.reduceMul, Nat.reduceLT, Nat.reduceLeDiff, Nat.reduceEqDiff, reduceIte, reduceCtorEq, if_true, if_false, Int.reduceEq, Int.reduceLT, Int.reduceLE, Int.reduceAdd, Int.reduceSub, Int.reduceMul, Int.reduceNeg, Int.reduceToNat, decide_true, decide_false, Nat.reduceBEq, St.ids, upto, arr_sub, lc_sub, arS, List.map_cons, List.map_nil]
        all_goals rfl
      · rintro k σ' ⟨i, l', r0, X, hk, hi, hev, hll, hX, rfl⟩ Q1 hQ1
        refine sq fun _ _ => ?_
        refine sq fun _ _ => ?_
        refine rg (sg ?_)
        refine nx ?_
        refine cb (fun h => ?_) (fun h => ?_)
        · have hin : i < p.kids.length := by omega
          have hwi : IntKind.i64.wrap ((i : Int) + 1) = ((i + 1 : Nat) : Int) := wrap_succ (by omega)
          have hee := el_at (f := cPr) hin
          have hdr : p.kids.drop i = p.kids[i] :: p.kids.drop (i + 1) := List.drop_eq_getElem_cons hin
          have hkm : p.kids[i] ∈ p.kids := List.getElem_mem hin
          rw [hdr] at hev hll
          rw [colsL_cons] at hev
          simp only [cnts] at hll
          have hkl := colsP_len p.kids[i] l'
          rcases hX with ⟨hl', rfl, rfl⟩ | ⟨rfl, rfl⟩
          · rw [hl'] at hev hll hkl
            simp only [List.length_nil] at hll hkl
            refine sk (sg ?_)
            refine nx ?_
            refine sq fun _ _ => ?_
            refine bl ?_
            refine rg (sg ?_)
            refine and_assoc.2 ?_
            refine And.intro (by first | assumption | omega | rfl | trivial) ?_
            refine And.intro (by first | assumption | omega | rfl | trivial) ?_
            refine cl [] (sg ?_)
            simp (disch := omega) only [el_at]
            refine sg ?_
            refine (ih p.kids[i] hkm (hp.kid _ hkm) (by omega)).mono ?_
            rintro r bx (⟨hB, rfl, rfl⟩ | ⟨rfl, rfl⟩)
            · refine sg ?_
              refine nx ?_
              refine rg (sg ?_)
              simp (disch := omega) only [wrap_succ]
              rw [hB] at hev
              refine ln (p.kids.length - (i + 1)) [0] ?_ ?_
              · omega
              refine ⟨i + 1, [], _, _, rfl, by omega, hev, by simp only [List.length_nil]; omega, .inl ⟨rfl, rfl, rfl⟩, ?_⟩
              simp only [go_sem, Nat.reduceAdd, Nat.reduceSub, Nat.reduceMul, Nat.reduceLT, Nat.reduceLeDiff, Nat.reduceEqDiff, reduceIte, reduceCtorEq, if_true, if_false, Int.reduceEq, Int.reduceLT, Int.reduceLE, Int.reduceAdd, Int.reduceSub, Int.reduceMul, Int.reduceNeg, Int.reduceToNat, decide_true, decide_false, Nat.reduceBEq, St.ids, upto, arr_sub, hwi]
            · refine sg ?_
              refine nx ?_
              refine rg (sg ?_)
              simp (disch := omega) only [wrap_succ]
              refine ln (p.kids.length - (i + 1)) [0, 1] ?_ ?_
              · omega
              refine ⟨i + 1, _, _, _, rfl, by omega, hev, by omega, .inr ⟨rfl, rfl⟩, ?_⟩
              simp only [go_sem, Nat.reduceAdd, Nat.reduceSub, Nat.reduceMul, Nat.reduceLT, Nat.reduceLeDiff, Nat.reduceEqDiff, reduceIte, reduceCtorEq, if_true, if_false, Int.reduceEq, Int.reduceLT, Int.reduceLE, Int.reduceAdd, Int.reduceSub, Int.reduceMul, Int.reduceNeg, Int.reduceToNat, decide_true, decide_false, Nat.reduceBEq, St.ids, upto, arr_sub, hwi]
          · refine sk (sg ?_)
            refine nx ?_
            refine sq fun _ _ => ?_
            refine bl ?_
            refine rg (sg ?_)
            refine and_assoc.2 ?_
            refine And.intro (by first | assumption | omega | rfl | trivial) ?_
            refine And.intro (by first | assumption | omega | rfl | trivial) ?_
            refine cl [1] (sg ?_)
            simp (disch := omega) only [el_at]
            refine sg ?_
            refine (c13o p.kids[i] l' (hp.kid _ hkm) (by omega)).mono ?_
            rintro r bx (⟨hB, rfl, rfl⟩ | ⟨rfl, rfl⟩)
            · refine sg ?_
              refine nx ?_
              refine rg (sg ?_)
              simp (disch := omega) only [wrap_succ]
              rw [hB] at hev
              refine ln (p.kids.length - (i + 1)) [0, 1] ?_ ?_
              · omega
              refine ⟨i + 1, l', _, _, rfl, by omega, hev, by omega, .inr ⟨rfl, rfl⟩, ?_⟩
              simp only [go_sem, Nat.reduceAdd, Nat.reduceSub, Nat.reduceMul, Nat.reduceLT, Nat.reduceLeDiff, Nat.reduceEqDiff, reduceIte, reduceCtorEq, if_true, if_false, Int.reduceEq, Int.reduceLT, Int.reduceLE, Int.reduceAdd, Int.reduceSub, Int.reduceMul, Int.reduceNeg, Int.reduceToNat, decide_true, decide_false, Nat.reduceBEq, St.ids, upto, arr_sub, hwi]
            · refine sg ?_
              refine nx ?_
              refine rg (sg ?_)
              simp (disch := omega) only [wrap_succ]
              refine ln (p.kids.length - (i + 1)) [0, 2] ?_ ?_
              · omega
              refine ⟨i + 1, _, _, _, rfl, by omega, hev, by omega, .inr ⟨rfl, rfl⟩, ?_⟩
              simp only [go_sem, Nat.reduceAdd, Nat.reduceSub, Nat.reduceMul, Nat.reduceLT, Nat.reduceLeDiff, Nat.reduceEqDiff, reduceIte, reduceCtorEq, if_true, if_false, Int.reduceEq, Int.reduceLT, Int.reduceLE, Int.reduceAdd, Int.reduceSub, Int.reduceMul, Int.reduceNeg, Int.reduceToNat, decide_true, decide_false, Nat.reduceBEq, St.ids, upto, arr_sub, hwi]
        · rw [List.drop_of_length_le (by omega), colsL_nil] at hev
          rcases hX with ⟨hl', rfl, rfl⟩ | ⟨rfl, rfl⟩
          · refine xt (sg ?_)
            refine lx (g := sg ?_)
            refine nx ?_
            refine sq fun _ _ => ?_
            refine rg (sg ?_)
            refine nx ?_
            refine rt ?_
            refine f1 (g := sg ?_)
            exact ax [] (.inl ⟨by rw [hev, hl'], rfl, rfl⟩)
          · refine xt (sg ?_)
            refine lx (g := sg ?_)
            refine nx ?_
            refine sq fun _ _ => ?_
            refine rg (sg ?_)
            refine nx ?_
            refine rt ?_
            refine f1 (g := sg ?_)
            refine ax [1] (.inr ⟨?_, ?_⟩)
            · simp only [go_sem, Nat.reduceAdd, Nat.reduceSub, Nat.reduceMul, Nat.reduceLT, Nat.reduceLeDiff, Nat.reduceEqDiff, reduceIte, reduceCtorEq, if_true, if_false, Int.reduceEq, Int.reduceLT, Int.reduceLE, Int.reduceAdd, Int.reduceSub, Int.reduceMul, Int.reduceNeg, Int.reduceToNat, decide_true, decide_false, Nat.reduceBEq, St.ids, upto, hev]
            · simp only [go_sem, Nat.reduceAdd, Nat.reduceSub, Nat.reduceMul, Nat.reduceLT, Nat.reduceLeDiff, Nat.reduceEqDiff, reduceIte, reduceCtorEq, if_true, if_false, Int.reduceEq, Int.reduceLT, Int.reduceLE, Int.reduceAdd, Int.reduceSub, Int.reduceMul, Int.reduceNeg, Int.reduceToNat, decide_true, decide_false, Nat.reduceBEq, St.ids, upto, arr_sub, hev]
  · have hA : addC [] p.col = [] := addC_no fun h => h1 h.1
    refine sk (sg ?_)
    refine nx ?_
    refine sq fun _ _ => ?_
    refine sq fun _ _ => ?_
    refine rg (sg ?_)
    refine nx ?_
    refine bl ?_
    rw [hA] at hcE hcl
    refine lp [0, 3, 7] [0] (fun k σ => ∃ (i : Nat) (l' : List ByteArray) (r0 : A) (X : List B), k = p.kids.length - i ∧ i ≤ p.kids.length ∧ colsP p [] = colsL (p.kids.drop i) l' ∧ l'.length + cnts (p.kids.drop i) ≤ 500 ∧ ((l' = [] ∧ r0 = .one (.c (.v (.slice none 0 0))) ∧ X = []) ∨ (r0 = xOwn 1 1 0 l'.length ∧ X = [arS l'])) ∧ σ = ⟨49, 0, [(0, r0), (3, xPtr 0 0), (7, A.int .i64 i)], .var [xI p.op, xS p.col, xI p.cmp, xB p.val.nl, xI p.val.i, xS p.val.s, xI p.kind, xS p.pat, .c (.sl p.kids.length 9 (elemsOf (p.kids.map cPr)))] 26 :: X⟩) p.kids.length ?_ ?_
    · refine ⟨0, [], _, _, by omega, by omega, hcE, hcl, .inl ⟨rfl, rfl, rfl⟩, ?_⟩
      simp only [go_sem, Nat.reduceAdd, Nat.reduceSub, Nat.reduceMul, Nat.reduceLT, Nat.reduceLeDiff, Nat.reduceEqDiff, reduceIte, reduceCtorEq, if_true, if_false, Int.reduceEq, Int.reduceLT, Int.reduceLE, Int.reduceAdd, Int.reduceSub, Int.reduceMul, Int.reduceNeg, Int.reduceToNat, decide_true, decide_false, Nat.reduceBEq, St.ids, upto, arr_sub, hA]
      all_goals rfl
    · rintro k σ' ⟨i, l', r0, X, hk, hi, hev, hll, hX, rfl⟩ Q1 hQ1
      refine sq fun _ _ => ?_
      refine sq fun _ _ => ?_
      refine rg (sg ?_)
      refine nx ?_
      refine cb (fun h => ?_) (fun h => ?_)
      · have hin : i < p.kids.length := by omega
        have hwi : IntKind.i64.wrap ((i : Int) + 1) = ((i + 1 : Nat) : Int) := wrap_succ (by omega)
        have hee := el_at (f := cPr) hin
        have hdr : p.kids.drop i = p.kids[i] :: p.kids.drop (i + 1) := List.drop_eq_getElem_cons hin
        have hkm : p.kids[i] ∈ p.kids := List.getElem_mem hin
        rw [hdr] at hev hll
        rw [colsL_cons] at hev
        simp only [cnts] at hll
        have hkl := colsP_len p.kids[i] l'
        rcases hX with ⟨hl', rfl, rfl⟩ | ⟨rfl, rfl⟩
        · rw [hl'] at hev hll hkl
          simp only [List.length_nil] at hll hkl
          refine sk (sg ?_)
          refine nx ?_
          refine sq fun _ _ => ?_
          refine bl ?_
          refine rg (sg ?_)
          refine and_assoc.2 ?_
          refine And.intro (by first | assumption | omega | rfl | trivial) ?_
          refine And.intro (by first | assumption | omega | rfl | trivial) ?_
          refine cl [] (sg ?_)
          simp (disch := omega) only [el_at]
          refine sg ?_
          refine (ih p.kids[i] hkm (hp.kid _ hkm) (by omega)).mono ?_
          rintro r bx (⟨hB, rfl, rfl⟩ | ⟨rfl, rfl⟩)
          · refine sg ?_
            refine nx ?_
            refine rg (sg ?_)
            simp (disch := omega) only [wrap_succ]
            rw [hB] at hev
            refine ln (p.kids.length - (i + 1)) [0] ?_ ?_
            · omega
            refine ⟨i + 1, [], _, _, rfl, by omega, hev, by simp only [List.length_nil]; omega, .inl ⟨rfl, rfl, rfl⟩, ?_⟩
            simp only [go_sem, Nat.reduceAdd, Nat.reduceSub, Nat.reduceMul, Nat.reduceLT, Nat.reduceLeDiff, Nat.reduceEqDiff, reduceIte, reduceCtorEq, if_true, if_false, Int.reduceEq, Int.reduceLT, Int.reduceLE, Int.reduceAdd, Int.reduceSub, Int.reduceMul, Int.reduceNeg, Int.reduceToNat, decide_true, decide_false, Nat.reduceBEq, St.ids, upto, arr_sub, hwi]
          · refine sg ?_
            refine nx ?_
            refine rg (sg ?_)
            simp (disch := omega) only [wrap_succ]
            refine ln (p.kids.length - (i + 1)) [0, 1] ?_ ?_
            · omega
            refine ⟨i + 1, _, _, _, rfl, by omega, hev, by omega, .inr ⟨rfl, rfl⟩, ?_⟩
            simp only [go_sem, Nat.reduceAdd, Nat.reduceSub, Nat.reduceMul, Nat.reduceLT, Nat.reduceLeDiff, Nat.reduceEqDiff, reduceIte, reduceCtorEq, if_true, if_false, Int.reduceEq, Int.reduceLT, Int.reduceLE, Int.reduceAdd, Int.reduceSub, Int.reduceMul, Int.reduceNeg, Int.reduceToNat, decide_true, decide_false, Nat.reduceBEq, St.ids, upto, arr_sub, hwi]
        · refine sk (sg ?_)
          refine nx ?_
          refine sq fun _ _ => ?_
          refine bl ?_
          refine rg (sg ?_)
          refine and_assoc.2 ?_
          refine And.intro (by first | assumption | omega | rfl | trivial) ?_
          refine And.intro (by first | assumption | omega | rfl | trivial) ?_
          refine cl [1] (sg ?_)
          simp (disch := omega) only [el_at]
          refine sg ?_
          refine (c13o p.kids[i] l' (hp.kid _ hkm) (by omega)).mono ?_
          rintro r bx (⟨hB, rfl, rfl⟩ | ⟨rfl, rfl⟩)
          · refine sg ?_
            refine nx ?_
            refine rg (sg ?_)
            simp (disch := omega) only [wrap_succ]
            rw [hB] at hev
            refine ln (p.kids.length - (i + 1)) [0, 1] ?_ ?_
            · omega
            refine ⟨i + 1, l', _, _, rfl, by omega, hev, by omega, .inr ⟨rfl, rfl⟩, ?_⟩
            simp only [go_sem, Nat.reduceAdd, Nat.reduceSub, Nat.reduceMul, Nat.reduceLT, Nat.reduceLeDiff, Nat.reduceEqDiff, reduceIte, reduceCtorEq, if_true, if_false, Int.reduceEq, Int.reduceLT, Int.reduceLE, Int.reduceAdd, Int.reduceSub, Int.reduceMul, Int.reduceNeg, Int.reduceToNat, decide_true, decide_false, Nat.reduceBEq, St.ids, upto, arr_sub, hwi]
          · refine sg ?_
            refine nx ?_
            refine rg (sg ?_)
            simp (disch := omega) only [wrap_succ]
            refine ln (p.kids.length - (i + 1)) [0, 2] ?_ ?_
            · omega
            refine ⟨i + 1, _, _, _, rfl, by omega, hev, by omega, .inr ⟨rfl, rfl⟩, ?_⟩
            simp only [go_sem, Nat.reduceAdd, Nat.reduceSub, Nat.reduceMul, Nat.reduceLT, Nat.reduceLeDiff, Nat.reduceEqDiff, reduceIte, reduceCtorEq, if_true, if_false, Int.reduceEq, Int.reduceLT, Int.reduceLE, Int.reduceAdd, Int.reduceSub, Int.reduceMul, Int.reduceNeg, Int.reduceToNat, decide_true, decide_false, Nat.reduceBEq, St.ids, upto, arr_sub, hwi]
      · rw [List.drop_of_length_le (by omega), colsL_nil] at hev
        rcases hX with ⟨hl', rfl, rfl⟩ | ⟨rfl, rfl⟩
        · refine xt (sg ?_)
          refine lx (g := sg ?_)
          refine nx ?_
          refine sq fun _ _ => ?_
          refine rg (sg ?_)
          refine nx ?_
          refine rt ?_
          refine f1 (g := sg ?_)
          exact ax [] (.inl ⟨by rw [hev, hl'], rfl, rfl⟩)
        · refine xt (sg ?_)
          refine lx (g := sg ?_)
          refine nx ?_
          refine sq fun _ _ => ?_
          refine rg (sg ?_)
          refine nx ?_
          refine rt ?_
          refine f1 (g := sg ?_)
          refine ax [1] (.inr ⟨?_, ?_⟩)
          · simp only [go_sem, Nat.reduceAdd, Nat.reduceSub, Nat.reduceMul, Nat.reduceLT, Nat.reduceLeDiff, Nat.reduceEqDiff, reduceIte, reduceCtorEq, if_true, if_false, Int.reduceEq, Int.reduceLT, Int.reduceLE, Int.reduceAdd, Int.reduceSub, Int.reduceMul, Int.reduceNeg, Int.reduceToNat, decide_true, decide_false, Nat.reduceBEq, St.ids, upto, hev]
          · simp only [go_sem, Nat.reduceAdd, Nat.reduceSub, Nat.reduceMul, Nat.reduceLT, Nat.reduceLeDiff, Nat.reduceEqDiff, reduceIte, reduceCtorEq, if_true, if_false, Int.reduceEq, Int.reduceLT, Int.reduceLE, Int.reduceAdd, Int.reduceSub, Int.reduceMul, Int.reduceNeg, Int.reduceToNat, decide_true, decide_false, Nat.reduceBEq, St.ids, upto, arr_sub, hev]
theorem c12 (p : Pr) (hp : Sm p) (hd : p.dep ≤ 6) (hc : p.cnt ≤ 500) : PC Tryd.prog 12 [aPr p] [] (fun r bx => r = xRow (colsP p []).length 1 (elemsOf ((colsP p []).map cSt)) ∧ bx = []) := by
  refine enter (rs := [.tmp 2]) mx Tryd.func12 Tryd.ntmps12 fun Q0 hQ0 => ?_
  refine sq fun _ _ => ?_
  refine rg (sg ?_)
  refine nx ?_
  refine sq fun _ _ => ?_
  refine rg (sg ?_)
  refine nx ?_
  refine sq fun _ _ => ?_
  refine rg (sg ?_)
  refine cl [1] (sg ?_)
  refine (c23cn 6 p hp hd (by omega) hc).mono ?_
  rintro r bx ⟨rfl, ⟨hA, rfl⟩ | rfl⟩
  · refine sg ?_
    refine nx ?_
    refine sq fun _ _ => ?_
    refine rg (sg ?_)
    refine nx ?_
    refine rt ?_
    refine f1 (g := sg ?_)
    rw [hA]
    exact aw [] _ [] (.one (.c _ _ (.nil 1 _))) .nil ⟨rfl, rfl⟩
  · refine sg ?_
    refine nx ?_
    refine sq fun _ _ => ?_
    refine rg (sg ?_)
    refine nx ?_
    refine rt ?_
    refine f1 (g := sg ?_)
    refine ax [] ⟨?_, rfl⟩
    simp only [go_sem, Nat.reduceAdd, Nat.reduceSub, Nat.reduceMul, Nat.reduceLT, Nat.reduceLeDiff, Nat.reduceEqDiff, reduceIte, reduceCtorEq, if_true, if_false, Int.reduceEq, Int.reduceLT, Int.reduceLE, Int.reduceAdd, Int.reduceSub, Int.reduceMul, Int.reduceNeg, Int.reduceToNat, decide_true, decide_false, Nat.reduceBEq, St.ids, upto]
end
section
set_option maxRecDepth 100000
/-! The law's own text. -/
/-- The kids' texts, put together one by one. -/
def jnT (p : Pr) (i : Nat) : List UInt8 := Lib.join ((p.kids.take i).map fun k => parL p.op k.op (txP k)) (sepL p.op)
theorem join_snoc (l : List (List UInt8)) (x s : List UInt8) : Lib.join (l ++ [x]) s = if l = [] then x else Lib.join l s ++ (s ++ x) := by
  cases l with
  | nil => rw [if_pos rfl, List.nil_append, Lib.join_one]
  | cons a r =>
    rw [if_neg (by simp), List.cons_append, Lib.join_cons, Lib.join_cons]
    simp [Lib.joinTail]
theorem jnT_0 (p : Pr) : jnT p 0 = [] := by
  unfold jnT
  rw [List.take_zero, List.map_nil, Lib.join_nil]
theorem jnT_succ (p : Pr) (i : Nat) (h : i < p.kids.length) : jnT p (i + 1) = if i = 0 then parL p.op p.kids[i].op (txP p.kids[i]) else jnT p i ++ (sepL p.op ++ parL p.op p.kids[i].op (txP p.kids[i])) := by
  unfold jnT
  rw [List.take_add_one, List.getElem?_eq_getElem h, List.map_append]
  show Lib.join (_ ++ [_]) _ = _
  rw [join_snoc]
  by_cases hi : i = 0
  · subst hi
    rw [List.take_zero, List.map_nil, if_pos rfl, if_pos rfl]
  · rw [if_neg hi, if_neg]
    intro h2
    have h3 := congrArg List.length h2
    simp only [List.length_map, List.length_take, List.length_nil] at h3
    omega
theorem jnT_all (p : Pr) : jnT p p.kids.length = Lib.join (p.kids.map fun k => parL p.op k.op (txP k)) (sepL p.op) := by
  unfold jnT
  rw [List.take_length]
theorem jnT_len (p : Pr) (hs : Sm p) (hr : Rg p) (i : Nat) : (jnT p i).length ≤ 400 * cnts p.kids + 7 * p.kids.length := by
  have hm : ∀ (l : List Pr), (∀ x ∈ l, x ∈ p.kids) → (Lib.join (l.map fun k => parL p.op k.op (txP k)) (sepL p.op)).length ≤ 400 * cnts l + 7 * l.length := by
    intro l hl
    have hk : ∀ x ∈ l, (txP x).length ≤ 400 * x.cnt := fun x hx => txP_len x (hs.kid x (hl x hx)) (hr.kid x (hl x hx))
    cases l with
    | nil => rw [List.map_nil, Lib.join_nil]; simp
    | cons x r =>
      have e1 := joinTail_len p.op r fun y hy => hk y (by simp [hy])
      have e2 := parL_len p.op x.op (txP x)
      have e3 := hk x (by simp)
      rw [List.map_cons, Lib.join_cons, List.length_append, cnts, List.length_cons]
      omega
  have h1 := hm (p.kids.take i) fun x hx => List.mem_of_mem_take hx
  have h2 : ∀ (l : List Pr) (i : Nat), cnts (l.take i) ≤ cnts l := by
    intro l
    induction l with
    | nil => intro i; simp
    | cons a r ih =>
      intro i
      cases i with
      | zero => simp [cnts]
      | succ i =>
        have := ih i
        simp only [List.take_succ_cons, cnts]
        omega
  have h3 := h2 p.kids i
  have h4 : (p.kids.take i).length ≤ p.kids.length := by simp; omega
  have h5 : (jnT p i).length = _ := rfl
  unfold jnT at h5 ⊢
  omega
theorem jn_app {a b c : ByteArray} {x y z : List UInt8} (ha : a = ofL x) (hb : b = ofL y) (hc : c = ofL z) : a ++ b ++ c = ofL (x ++ (y ++ z)) := by
  subst ha hb hc
  apply ba_ext
  simp [bsL, ByteArray.data_append]
set_option maxHeartbeats 8000000 in
theorem c16at : ∀ p : Pr, Sm p → Rg p → oneP p = true → p.cnt ≤ 1000 → PC Tryd.prog 16 [aPr p] [] (fun r bx => r = A.str (ofL (txP p)) ∧ bx = []) := by
  refine Pr.by_kids fun p ih hs hr ho hc => ?_
  have hH := oneP_hd ho
  have htx := txP_eq p
  have hlen := hs.len
  refine enter (rs := [.tmp 2]) mx Tryd.func16 Tryd.ntmps16 fun Q0 hQ0 => ?_
  refine sq fun _ _ => ?_
  refine rg (sg ?_)
  refine nx ?_
  refine sq fun _ _ => ?_
  refine sq fun _ _ => ?_
  refine rg (sg ?_)
  refine nx ?_
  refine bl ?_
  refine sq fun _ _ => ?_
  refine rg (sg ?_)
  refine nx ?_
  refine cb (fun g1 => ?_) (fun g1 => ?_)
  · rw [if_pos g1] at htx
    refine sq fun _ _ => ?_
    refine rg (sg ?_)
    refine nx ?_
    refine rt (sg ?_)
    refine f1 (g := sg ?_)
    exact ax [] ⟨by rw [htx]; rfl, rfl⟩
  · rw [if_neg g1] at htx
    refine sq fun _ _ => ?_
    refine rg (sg ?_)
    refine nx ?_
    refine cb (fun g2 => ?_) (fun g2 => ?_)
    · rw [if_pos g2] at htx
      have hcmp : 1 ≤ p.cmp ∧ p.cmp ≤ 6 := by unfold HdP at hH; omega
      have hlo := hr.lo
      have hhi := hr.hi
      have hvs := hs.val
      have hvs1 : p.val.s.size ≤ 1000 := by omega
      have hvl := valS_len p.kind p.val hvs hlo hhi
      have hsl := signL_len p.cmp
      have hcs := hs.col
      have hcl := len_bsL p.col
      refine sq fun _ _ => ?_
      refine dfs (.take 0 <| .take 1 <| .take 2 <| .take 4 <| .take 5 <| .take 6 <| .take 11 <| .take 12 <| .take 13 <| .take 14 <| .two 3 15 (.pure 7 <| .two 8 15 (.pure 9 <| .pure 10 <| .one 15 <| .pure 16 <| .pure 17 <| .nil) (.one 8 <| .pure 9 <| .pure 10 <| .pure 16 <| .pure 17 <| .nil)) (.one 3 <| .pure 7 <| .one 8 <| .pure 9 <| .pure 10 <| .pure 16 <| .pure 17 <| .nil)) [] ?_
      have hwm : IntKind.i64.wrap (p.cmp - 1) = p.cmp - 1 := by rw [IntKind.wrap_i64]; omega
      have he : ([[xS ⟨#[61]⟩], [xS ⟨#[60, 62]⟩], [xS ⟨#[60]⟩], [xS ⟨#[60, 61]⟩], [xS ⟨#[62]⟩], [xS ⟨#[62, 61]⟩]] : List (List L)).getD (IntKind.i64.wrap (p.cmp - 1)).toNat [] = [xS (ofL (signL p.cmp))] := by
        rw [hwm]
        have h6 : p.cmp = 1 ∨ p.cmp = 2 ∨ p.cmp = 3 ∨ p.cmp = 4 ∨ p.cmp = 5 ∨ p.cmp = 6 := by omega
        rcases h6 with h | h | h | h | h | h <;> rw [h] <;> rfl
      have hz1 : (signL p.cmp).toArray.size ≤ 2 := by rw [List.size_toArray]; exact hsl
      have hz2 : (valS p.kind ⟨p.val.nl, p.val.i, p.val.s⟩).toArray.size ≤ 202 := by rw [List.size_toArray]; exact hvl
      have hz3 : (#[32] : Array UInt8).size = 1 := rfl
      refine afs (sg ?_)
      refine afs (sg ?_)
      refine afs (sg ?_)
      refine And.intro (by first | assumption | omega | rfl | trivial) ?_
      refine afs (sg ?_)
      refine afs (sg ?_)
      refine afs (sg ?_)
      refine afs (sg ?_)
      refine afs (sg ?_)
      refine afs (sg ?_)
      refine afs (sg ?_)
      refine afs (sg ?_)
      refine ⟨?_, ?_⟩
      · refine afs (sg ?_)
        refine and_assoc.2 ?_
        refine And.intro (by first | assumption | omega | rfl | trivial) ?_
        refine And.intro (by first | assumption | omega | rfl | trivial) ?_
        refine afs (sg ?_)
        refine and_assoc.2 ?_
        refine And.intro (by first | assumption | omega | rfl | trivial) ?_
        refine ⟨?_, ?_⟩
        · refine afs (sg ?_)
          simp only [go_sem, Nat.reduceAdd, Nat.reduceSub, Nat.reduceMul, Nat.reduceLT, Nat.reduceLeDiff, Nat.reduceEqDiff, reduceIte, reduceCtorEq, if_true, if_false, Int.reduceEq, Int.reduceLT, Int.reduceLE, Int.reduceAdd, Int.reduceSub, Int.reduceMul, Int.reduceNeg, Int.reduceToNat, decide_true, decide_false, Nat.reduceBEq, he, List.take_succ_cons, List.take_zero, List.headD_cons]
          refine And.intro (by first | assumption | omega | rfl | trivial) ?_
          refine afs (sg ?_)
          refine And.intro (by first | assumption | omega | rfl | trivial) ?_
          refine afs (sg ?_)
          refine cl [] (sg ?_)
          refine (c9 _ _ _ _ (by first | assumption | omega | trivial | rfl) (by first | assumption | omega | trivial | rfl) (by first | assumption | omega | trivial | rfl)).mono ?_
          rintro r bx ⟨rfl, rfl⟩
          refine sg ?_
          refine afs (sg ?_)
          refine And.intro (by first | assumption | omega | rfl | trivial) ?_
          refine afs (sg ?_)
          refine afs (sg ?_)
          refine nx ?_
          refine rt (sg ?_)
          refine f1 (g := sg ?_)
          refine ax [] ⟨?_, rfl⟩
          rw [htx]
          exact congrArg A.str (ba_ext (by simp [bsL, ByteArray.data_append]))
        · refine cl [] (sg ?_)
          refine (c9 _ _ _ _ (by first | assumption | omega | trivial | rfl) (by first | assumption | omega | trivial | rfl) (by first | assumption | omega | trivial | rfl)).mono ?_
          rintro r bx ⟨rfl, rfl⟩
          refine sg ?_
          refine afs (sg ?_)
          refine And.intro (by first | assumption | omega | rfl | trivial) ?_
          refine afs (sg ?_)
          simp only [go_sem, Nat.reduceAdd, Nat.reduceSub, Nat.reduceMul, Nat.reduceLT, Nat.reduceLeDiff, Nat.reduceEqDiff, reduceIte, reduceCtorEq, if_true, if_false, Int.reduceEq, Int.reduceLT, Int.reduceLE, Int.reduceAdd, Int.reduceSub, Int.reduceMul, Int.reduceNeg, Int.reduceToNat, decide_true, decide_false, Nat.reduceBEq, he, List.take_succ_cons, List.take_zero, List.headD_cons]
          refine And.intro (by first | assumption | omega | rfl | trivial) ?_
          refine afs (sg ?_)
          refine And.intro (by first | assumption | omega | rfl | trivial) ?_
          refine afs (sg ?_)
          refine And.intro (by first | assumption | omega | rfl | trivial) ?_
          refine afs (sg ?_)
          refine afs (sg ?_)
          refine nx ?_
          refine rt (sg ?_)
          refine f1 (g := sg ?_)
          refine ax [] ⟨?_, rfl⟩
          rw [htx]
          exact congrArg A.str (ba_ext (by simp [bsL, ByteArray.data_append]))
      · refine cl [] (sg ?_)
        refine (c9 _ _ _ _ (by first | assumption | omega | trivial | rfl) (by first | assumption | omega | trivial | rfl) (by first | assumption | omega | trivial | rfl)).mono ?_
        rintro r bx ⟨rfl, rfl⟩
        refine sg ?_
        refine afs (sg ?_)
        refine afs (sg ?_)
        refine and_assoc.2 ?_
        refine And.intro (by first | assumption | omega | rfl | trivial) ?_
        refine And.intro (by first | assumption | omega | rfl | trivial) ?_
        refine afs (sg ?_)
        refine And.intro (by first | assumption | omega | rfl | trivial) ?_
        refine afs (sg ?_)
        simp only [go_sem, Nat.reduceAdd, Nat.reduceSub, Nat.reduceMul, Nat.reduceLT, Nat.reduceLeDiff, Nat.reduceEqDiff, reduceIte, reduceCtorEq, if_true, if_false, Int.reduceEq, Int.reduceLT, Int.reduceLE, Int.reduceAdd, Int.reduceSub, Int.reduceMul, Int.reduceNeg, Int.reduceToNat, decide_true, decide_false, Nat.reduceBEq, he, List.take_succ_cons, List.take_zero, List.headD_cons]
        refine And.intro (by first | assumption | omega | rfl | trivial) ?_
        refine afs (sg ?_)
        refine And.intro (by first | assumption | omega | rfl | trivial) ?_
        refine afs (sg ?_)
        refine And.intro (by first | assumption | omega | rfl | trivial) ?_
        refine afs (sg ?_)
        refine afs (sg ?_)
        refine nx ?_
        refine rt (sg ?_)
        refine f1 (g := sg ?_)
        refine ax [] ⟨?_, rfl⟩
        rw [htx]
        exact congrArg A.str (ba_ext (by simp [bsL, ByteArray.data_append]))
    · rw [if_neg g2] at htx
      refine sq fun _ _ => ?_
      refine rg (sg ?_)
      refine nx ?_
      refine cb (fun g3 => ?_) (fun g3 => ?_)
      · rw [if_pos g3] at htx
        have hcs := hs.col
        have hz8 : #[32, 105, 115, 32, 110, 117, 108, 108].size = 8 := rfl
        refine sq fun _ _ => ?_
        refine rg (sg ?_)
        refine And.intro (by first | assumption | omega | rfl | trivial) ?_
        refine nx ?_
        refine rt (sg ?_)
        refine f1 (g := sg ?_)
        refine ax [] ⟨?_, rfl⟩
        rw [htx]
        exact congrArg A.str (ba_ext (by simp [bsL, ByteArray.data_append]))
      · rw [if_neg g3] at htx
        refine sq fun _ _ => ?_
        refine rg (sg ?_)
        refine nx ?_
        refine cb (fun g4 => ?_) (fun g4 => ?_)
        · rw [if_pos g4] at htx
          have hcs := hs.col
          have hps := hs.pat
          have hps1 : p.pat.size ≤ 1000 := by omega
          have hqs : (quoS p.pat).size ≤ 202 := quoS_len p.pat hps
          refine sq fun _ _ => ?_
          refine dr [.take 0, .take 1, .take 2, .take 3, .take 4, .one 5, .pure 6, .pure 7] [] (sg ?_)
          refine And.intro (by simp; omega) ?_
          refine cl [] (sg ?_)
          refine (c20 _ (by first | assumption | omega | trivial | rfl)).mono ?_
          rintro r bx ⟨rfl, rfl⟩
          refine sg ?_
          refine And.intro (by simp; omega) ?_
          refine nx ?_
          refine rt (sg ?_)
          refine f1 (g := sg ?_)
          refine ax [] ⟨?_, rfl⟩
          rw [htx]
          exact congrArg A.str (ba_ext (by simp [bsL, ByteArray.data_append]))
        · rw [if_neg g4] at htx
          refine sq fun _ _ => ?_
          refine rg (sg ?_)
          refine nx ?_
          refine cb (fun g5 => ?_) (fun g5 => ?_)
          · have hl1 : p.kids.length = 1 := by unfold HdP at hH; omega
            have hee := el_at (f := cPr) (l := p.kids) (i := 0) (by omega)
            have hk0 : p.kids[0] ∈ p.kids := List.getElem_mem _
            have hkc := cnt_kid hk0
            have hkl := txP_len p.kids[0] (hs.kid _ hk0) (hr.kid _ hk0)
            have hkH := oneP_hd (oneP_kid ho _ hk0)
            have hko : p.kids[0].op ≤ 7 := by unfold HdP at hkH; omega
            have hz1 : (ofL (txP p.kids[0])).size ≤ 1000000 := by rw [sz_ofL]; omega
            have htx2 : txP p = ([110, 111, 116, 32] : List UInt8) ++ (if p.kids[0].op = 6 ∨ p.kids[0].op = 7 then (40 : UInt8) :: (txP p.kids[0] ++ [41]) else txP p.kids[0]) := by
              have hm : p.kids.map (fun k => parL p.op k.op (txP k)) = [parL p.op p.kids[0].op (txP p.kids[0])] := by
                obtain ⟨k, hk⟩ := List.length_eq_one_iff.1 hl1
                simp [hk]
              rw [htx, if_pos g5, par5 p.op g5 p.kids[0].op hko, hm, Lib.join_one]
            refine sq fun _ _ => ?_
            refine rg (sg ?_)
            refine And.intro (by first | assumption | omega | rfl | trivial) ?_
            refine cl [] (sg ?_)
            simp (disch := omega) only [el_at]
            refine sg ?_
            refine (ih _ hk0 (hs.kid _ hk0) (hr.kid _ hk0) (oneP_kid ho _ hk0) (by omega)).mono ?_
            rintro r bx ⟨rfl, rfl⟩
            refine sg ?_
            refine nx ?_
            refine sq fun _ _ => ?_
            refine sq fun _ _ => ?_
            refine rg (sg ?_)
            refine And.intro (by first | assumption | omega | rfl | trivial) ?_
            simp (disch := omega) only [el_at]
            refine sg ?_
            refine nx ?_
            refine cb (fun g6 => ?_) (fun g6 => ?_)
            · rw [if_pos (by omega)] at htx2
              have hz3 : (⟨#[40]⟩ ++ ofL (txP p.kids[0])).size ≤ 2000000 := by rw [ByteArray.size_append]; have : (⟨#[40]⟩ : ByteArray).size = 1 := rfl; omega
              have hz4 : (⟨#[40]⟩ ++ ofL (txP p.kids[0]) ++ ⟨#[41]⟩).size ≤ 2000001 := by rw [ByteArray.size_append]; have : (⟨#[41]⟩ : ByteArray).size = 1 := rfl; omega
              refine rg (sg ?_)
              refine And.intro (by simp; omega) ?_
              refine And.intro (by simp; omega) ?_
              refine nx ?_
              refine sq fun _ _ => ?_
              refine rg (sg ?_)
              refine And.intro (by simp; omega) ?_
              refine nx ?_
              refine rt (sg ?_)
              refine f1 (g := sg ?_)
              refine ax [] ⟨?_, rfl⟩
              rw [htx2]
              exact congrArg A.str (ba_ext (by simp [bsL, ByteArray.data_append]))
            · rw [if_neg (by omega)] at htx2
              refine sk (sg ?_)
              refine nx ?_
              refine sq fun _ _ => ?_
              refine rg (sg ?_)
              refine And.intro (by simp; omega) ?_
              refine nx ?_
              refine rt (sg ?_)
              refine f1 (g := sg ?_)
              refine ax [] ⟨?_, rfl⟩
              rw [htx2]
              exact congrArg A.str (ba_ext (by simp [bsL, ByteArray.data_append]))
          · refine sk (sg ?_)
            refine nx ?_
            refine sq fun _ _ => ?_
            refine rg (sg ?_)
            refine nx ?_
            refine sq fun _ _ => ?_
            refine sq fun _ _ => ?_
            refine rg (sg ?_)
            refine nx ?_
            refine bl ?_
            have hop : p.op = 6 ∨ p.op = 7 := by unfold HdP at hH; omega
            have h5n : p.op ≠ 5 := g5
            have htl := txP_len p hs hr
            rw [if_neg h5n, List.nil_append, ← jnT_all] at htx
            refine lp [1, 4, 5] [0] (fun k σ => ∃ i : Nat, k = p.kids.length - i ∧ i ≤ p.kids.length ∧ σ = ⟨112, 0, [(1, xPtr 0 0), (4, A.str (ofL (jnT p i))), (5, A.int .i64 i)], [.var [xI p.op, xS p.col, xI p.cmp, xB p.val.nl, xI p.val.i, xS p.val.s, xI p.kind, xS p.pat, .c (.sl p.kids.length 9 (elemsOf (p.kids.map cPr)))] 26]⟩) p.kids.length ?_ ?_
            · refine ⟨0, by omega, by omega, ?_⟩
              rw [jnT_0]
              exact keq
            · rintro k σ' ⟨i, hk, hi, rfl⟩ Q1 hQ1
              refine sq fun _ _ => ?_
              refine sq fun _ _ => ?_
              refine rg (sg ?_)
              refine nx ?_
              refine cb (fun hlt => ?_) (fun hlt => ?_)
              · have hin : i < p.kids.length := by omega
                have hwi : IntKind.i64.wrap ((i : Int) + 1) = ((i + 1 : Nat) : Int) := wrap_succ (by omega)
                have hee := el_at (f := cPr) hin
                have hki : p.kids[i] ∈ p.kids := List.getElem_mem hin
                have hkc := cnt_kid hki
                have hkl := txP_len p.kids[i] (hs.kid _ hki) (hr.kid _ hki)
                have hjs := jnT_succ p i hin
                have hjl := jnT_len p hs hr i
                have hce := cnt_eq p
                have hz1 : (ofL (txP p.kids[i])).size ≤ 1000000 := by rw [sz_ofL]; omega
                have hz2 : (ofL (jnT p i)).size ≤ 1000000 := by rw [sz_ofL]; omega
                refine sk (sg ?_)
                refine nx ?_
                refine sq fun _ _ => ?_
                refine bl ?_
                refine sq fun _ _ => ?_
                refine rg (sg ?_)
                refine and_assoc.2 ?_
                refine And.intro (by first | assumption | omega | rfl | trivial) ?_
                refine And.intro (by first | assumption | omega | rfl | trivial) ?_
                refine cl [] (sg ?_)
                simp (disch := omega) only [el_at]
                refine sg ?_
                refine (ih _ hki (hs.kid _ hki) (hr.kid _ hki) (oneP_kid ho _ hki) (by omega)).mono ?_
                rintro r bx ⟨rfl, rfl⟩
                refine sg ?_
                have hpl := parL_len p.op p.kids[i].op (txP p.kids[i])
                refine nx ?_
                refine sq fun _ _ => ?_
                refine sq fun _ _ => ?_
                refine rg (sg ?_)
                refine And.intro (by first | assumption | omega | rfl | trivial) ?_
                simp (disch := omega) only [el_at]
                refine sg ?_
                refine nx ?_
                refine cb (fun g7 => ?_) (fun g7 => ?_)
                · have hPar : (40 : UInt8) :: (txP p.kids[i] ++ [41]) = parL p.op p.kids[i].op (txP p.kids[i]) := by
                    unfold parL
                    rw [if_pos (.inr g7)]
                  have hz3 : (⟨#[40]⟩ ++ ofL (txP p.kids[i])).size ≤ 2000000 := by rw [ByteArray.size_append]; have : (⟨#[40]⟩ : ByteArray).size = 1 := rfl; omega
                  have hz4 : (⟨#[40]⟩ ++ ofL (txP p.kids[i]) ++ ⟨#[41]⟩).size ≤ 2000001 := by rw [ByteArray.size_append]; have : (⟨#[41]⟩ : ByteArray).size = 1 := rfl; omega
                  refine rg (sg ?_)
                  refine And.intro (by simp; omega) ?_
                  refine And.intro (by simp; omega) ?_
                  refine nx ?_
                  refine sq fun _ _ => ?_
                  refine sq fun _ _ => ?_
                  refine rg (sg ?_)
                  refine nx ?_
                  rw [par_app, hPar]
                  generalize parL p.op p.kids[i].op (txP p.kids[i]) = P at hjs hpl ⊢
                  have hzP : (ofL P).size ≤ 1000010 := by rw [sz_ofL]; omega
                  have hzA : (ofL (jnT p i) ++ ⟨#[32, 97, 110, 100, 32]⟩).size ≤ 1000010 := by rw [ByteArray.size_append]; have : (⟨#[32, 97, 110, 100, 32]⟩ : ByteArray).size = 5 := rfl; omega
                  have hzO : (ofL (jnT p i) ++ ⟨#[32, 111, 114, 32]⟩).size ≤ 1000010 := by rw [ByteArray.size_append]; have : (⟨#[32, 111, 114, 32]⟩ : ByteArray).size = 4 := rfl; omega
                  refine cb (fun g8 => ?_) (fun g8 => ?_)
                  · have g9 : 0 < i ∧ p.op = 6 := by
                      omega
                    have hsp : sepL p.op = [32, 97, 110, 100, 32] := by unfold sepL; rw [if_pos g9.2]
                    have hj2 : ofL (jnT p i) ++ ⟨#[32, 97, 110, 100, 32]⟩ ++ ofL P = ofL (jnT p (i + 1)) := by rw [hjs, if_neg (by omega), hsp]; exact jn_app rfl rfl rfl
                    refine rg (sg ?_)
                    refine And.intro (by simp; omega) ?_
                    refine nx ?_
                    refine sq fun _ _ => ?_
                    refine sq fun _ _ => ?_
                    refine rg (sg ?_)
                    refine nx ?_
                    refine cb (fun g10 => ?_) (fun g10 => ?_)
                    · exfalso
                      omega
                    · refine sk (sg ?_)
                      refine nx ?_
                      refine rg (sg ?_)
                      refine And.intro (by simp; omega) ?_
                      refine nx ?_
                      refine rg (sg ?_)
                      simp (disch := omega) only [wrap_succ]
                      rw [hj2]
                      refine ln (p.kids.length - (i + 1)) [0] ?_ ?_
                      · omega
                      exact ⟨i + 1, by omega, by omega, keq⟩
                  · refine sk (sg ?_)
                    refine nx ?_
                    refine sq fun _ _ => ?_
                    refine sq fun _ _ => ?_
                    refine rg (sg ?_)
                    refine nx ?_
                    refine cb (fun g9 => ?_) (fun g9 => ?_)
                    · have g9 : 0 < i ∧ p.op = 7 := by
                        omega
                      have hsp : sepL p.op = [32, 111, 114, 32] := by unfold sepL; rw [if_neg (by omega)]
                      have hj2 : ofL (jnT p i) ++ ⟨#[32, 111, 114, 32]⟩ ++ ofL P = ofL (jnT p (i + 1)) := by rw [hjs, if_neg (by omega), hsp]; exact jn_app rfl rfl rfl
                      refine rg (sg ?_)
                      refine And.intro (by first | assumption | omega | rfl | trivial) ?_
                      refine nx ?_
                      refine rg (sg ?_)
                      refine And.intro (by first | assumption | omega | rfl | trivial) ?_
                      refine nx ?_
                      refine rg (sg ?_)
                      simp (disch := omega) only [wrap_succ]
                      rw [hj2]
                      refine ln (p.kids.length - (i + 1)) [0] ?_ ?_
                      · omega
                      exact ⟨i + 1, by omega, by omega, keq⟩
                    · have hi0 : i = 0 := by
                        omega
                      have hj2 : ofL (jnT p i) ++ ofL P = ofL (jnT p (i + 1)) := by
                        rw [hjs, if_pos hi0, hi0, jnT_0]
                        exact ba_ext (by simp [bsL, ByteArray.data_append])
                      refine sk (sg ?_)
                      refine nx ?_
                      refine rg (sg ?_)
                      refine And.intro (by simp; omega) ?_
                      refine nx ?_
                      refine rg (sg ?_)
                      simp (disch := omega) only [wrap_succ]
                      rw [hj2]
                      refine ln (p.kids.length - (i + 1)) [0] ?_ ?_
                      · omega
                      exact ⟨i + 1, by omega, by omega, keq⟩
                · have hPar : txP p.kids[i] = parL p.op p.kids[i].op (txP p.kids[i]) := by
                    unfold parL
                    rw [if_neg (by omega)]
                  refine sk (sg ?_)
                  refine nx ?_
                  refine sq fun _ _ => ?_
                  refine sq fun _ _ => ?_
                  refine rg (sg ?_)
                  refine nx ?_
                  rw [congrArg ofL hPar]
                  generalize parL p.op p.kids[i].op (txP p.kids[i]) = P at hjs hpl ⊢
                  have hzP : (ofL P).size ≤ 1000010 := by rw [sz_ofL]; omega
                  have hzA : (ofL (jnT p i) ++ ⟨#[32, 97, 110, 100, 32]⟩).size ≤ 1000010 := by rw [ByteArray.size_append]; have : (⟨#[32, 97, 110, 100, 32]⟩ : ByteArray).size = 5 := rfl; omega
                  have hzO : (ofL (jnT p i) ++ ⟨#[32, 111, 114, 32]⟩).size ≤ 1000010 := by rw [ByteArray.size_append]; have : (⟨#[32, 111, 114, 32]⟩ : ByteArray).size = 4 := rfl; omega
                  refine cb (fun g8 => ?_) (fun g8 => ?_)
                  · have g9 : 0 < i ∧ p.op = 6 := by
                      omega
                    have hsp : sepL p.op = [32, 97, 110, 100, 32] := by unfold sepL; rw [if_pos g9.2]
                    have hj2 : ofL (jnT p i) ++ ⟨#[32, 97, 110, 100, 32]⟩ ++ ofL P = ofL (jnT p (i + 1)) := by rw [hjs, if_neg (by omega), hsp]; exact jn_app rfl rfl rfl
                    refine rg (sg ?_)
                    refine And.intro (by simp; omega) ?_
                    refine nx ?_
                    refine sq fun _ _ => ?_
                    refine sq fun _ _ => ?_
                    refine rg (sg ?_)
                    refine nx ?_
                    refine cb (fun g10 => ?_) (fun g10 => ?_)
                    · exfalso
                      omega
                    · refine sk (sg ?_)
                      refine nx ?_
                      refine rg (sg ?_)
                      refine And.intro (by simp; omega) ?_
                      refine nx ?_
                      refine rg (sg ?_)
                      simp (disch := omega) only [wrap_succ]
                      rw [hj2]
                      refine ln (p.kids.length - (i + 1)) [0] ?_ ?_
                      · omega
                      exact ⟨i + 1, by omega, by omega, keq⟩
                  · refine sk (sg ?_)
                    refine nx ?_
                    refine sq fun _ _ => ?_
                    refine sq fun _ _ => ?_
                    refine rg (sg ?_)
                    refine nx ?_
                    refine cb (fun g9 => ?_) (fun g9 => ?_)
                    · have g9 : 0 < i ∧ p.op = 7 := by
                        omega
                      have hsp : sepL p.op = [32, 111, 114, 32] := by unfold sepL; rw [if_neg (by omega)]
                      have hj2 : ofL (jnT p i) ++ ⟨#[32, 111, 114, 32]⟩ ++ ofL P = ofL (jnT p (i + 1)) := by rw [hjs, if_neg (by omega), hsp]; exact jn_app rfl rfl rfl
                      refine rg (sg ?_)
                      refine And.intro (by simp; omega) ?_
                      refine nx ?_
                      refine rg (sg ?_)
                      refine And.intro (by simp; omega) ?_
                      refine nx ?_
                      refine rg (sg ?_)
                      simp (disch := omega) only [wrap_succ]
                      rw [hj2]
                      refine ln (p.kids.length - (i + 1)) [0] ?_ ?_
                      · omega
                      exact ⟨i + 1, by omega, by omega, keq⟩
                    · have hi0 : i = 0 := by
                        omega
                      have hj2 : ofL (jnT p i) ++ ofL P = ofL (jnT p (i + 1)) := by
                        rw [hjs, if_pos hi0, hi0, jnT_0]
                        exact ba_ext (by simp [bsL, ByteArray.data_append])
                      refine sk (sg ?_)
                      refine nx ?_
                      refine rg (sg ?_)
                      refine And.intro (by simp; omega) ?_
                      refine nx ?_
                      refine rg (sg ?_)
                      simp (disch := omega) only [wrap_succ]
                      rw [hj2]
                      refine ln (p.kids.length - (i + 1)) [0] ?_ ?_
                      · omega
                      exact ⟨i + 1, by omega, by omega, keq⟩
              · have hie : i = p.kids.length := by omega
                subst hie
                refine xt (sg ?_)
                refine lx (g := sg ?_)
                refine nx ?_
                refine sq fun _ _ => ?_
                refine rg (sg ?_)
                refine nx ?_
                refine rt ?_
                refine f1 (g := sg ?_)
                exact ax [] ⟨by rw [htx]; rfl, rfl⟩
theorem c7 (p : Pr) (hp : Sm p) (hr : Rg p) : PC Tryd.prog 7 [aPr p] [] (fun r bx => r = A.str (if mayP p then ofL (txP p) else ⟨#[]⟩) ∧ bx = []) := by
  refine enter (rs := [.tmp 2]) mx Tryd.func7 Tryd.ntmps7 fun Q0 hQ0 => ?_
  refine sq fun _ _ => ?_
  refine rg (sg ?_)
  refine nx ?_
  refine sq fun _ _ => ?_
  refine sq fun _ _ => ?_
  refine rg (sg ?_)
  refine cl [] (sg ?_)
  refine (c10 _ (by first | assumption | omega | trivial | rfl)).mono ?_
  rintro r bx ⟨rfl, rfl⟩
  refine sg ?_
  refine nx ?_
  refine cb (fun h1 => ?_) (fun h1 => ?_)
  · refine sq fun _ _ => ?_
    refine rg (sg ?_)
    refine nx ?_
    refine rt (sg ?_)
    refine f1 (g := sg ?_)
    exact ax [] ⟨by rw [h1]; rfl, rfl⟩
  · rw [Bool.not_eq_false] at h1
    obtain ⟨hc, -, ho⟩ := sz_cnt h1
    refine sk (sg ?_)
    refine nx ?_
    refine sq fun _ _ => ?_
    refine rg (sg ?_)
    refine cl [] (sg ?_)
    refine (c16at p hp hr ho (by omega)).mono ?_
    rintro r bx ⟨rfl, rfl⟩
    refine sg ?_
    refine nx ?_
    refine rt ?_
    refine f1 (g := sg ?_)
    exact ax [] ⟨by rw [h1]; rfl, rfl⟩
end
section
set_option maxRecDepth 100000
/-! The law of texts. -/
set_option maxHeartbeats 8000000 in
theorem c3 (p : Pr) (hp : Rg p) (ty : Int) (cn : Bool) (ci : Int) (cs : ByteArray) (h0 : -9223372036854775808 ≤ ci) (h1 : ci ≤ 9223372036854775807) : PC Tryd.prog 3 [aPr p, A.int .i64 ty, .agg [xB cn, xI ci, xS cs]] [] (fun r bx => r = .bool true ∧ bx = []) := by
  refine enter (rs := [.tmp 6]) mx Tryd.func3 Tryd.ntmps3 fun Q0 hQ0 => ?_
  refine sq fun _ _ => ?_
  refine rg (sg ?_)
  refine nx ?_
  refine sq fun _ _ => ?_
  refine sq fun _ _ => ?_
  refine rgs 2 (sgt ?_)
  refine cl [] (sg ?_)
  refine (c4at 9 p (by omega)).mono ?_
  rintro r bx ⟨rfl, rfl⟩
  refine sg ?_
  cases hs : smP 9 p
  · refine hrl (sg ?_)
    refine nx ?_
    refine ct (hx := ?_)
    refine sq fun _ _ => ?_
    refine rg (sg ?_)
    refine cl [] (sg ?_)
    refine (c5).mono ?_
    rintro r bx ⟨rfl, rfl⟩
    refine sg ?_
    refine nx ?_
    refine rt (sg ?_)
    refine f1 (g := sg ?_)
    exact ax [] ⟨rfl, rfl⟩
  · have sp : Sm p := smP_sm 9 p hs
    refine hrl (sg ?_)
    refine nx ?_
    refine cb (fun h2 => ?_) (fun h2 => ?_)
    · refine sq fun _ _ => ?_
      refine rg (sg ?_)
      refine cl [] (sg ?_)
      refine (c5).mono ?_
      rintro r bx ⟨rfl, rfl⟩
      refine sg ?_
      refine nx ?_
      refine rt (sg ?_)
      refine f1 (g := sg ?_)
      exact ax [] ⟨rfl, rfl⟩
    · have hcs : cs.size ≤ 1000 := by omega
      refine sk (sg ?_)
      refine nx ?_
      refine sq fun _ _ => ?_
      refine sq fun _ _ => ?_
      refine dfs (.take 0 <| .take 2 <| .one 1 <| .one 3 <| .pure 4 <| .pure 5 <| .pure 6 <| .pure 9 <| .two 7 10 (.two 8 10 (.one 10 <| .one 11 <| .pure 12 <| .pure 13 <| .nil) (.one 8 <| .one 11 <| .pure 12 <| .pure 13 <| .nil)) (.one 7 <| .one 8 <| .one 11 <| .pure 12 <| .pure 13 <| .nil)) [] ?_
      refine afs (sg ?_)
      refine afs (sg ?_)
      refine afs (sg ?_)
      refine cl [] (sg ?_)
      refine (c6 _ (by first | assumption | omega | trivial | rfl) (by first | assumption | omega | trivial | rfl)).mono ?_
      rintro r bx ⟨rfl, rfl⟩
      refine sg ?_
      refine afs (sg ?_)
      refine cl [] (sg ?_)
      refine (c7 _ (by first | assumption | omega | trivial | rfl) (by first | assumption | omega | trivial | rfl)).mono ?_
      rintro r bx ⟨rfl, rfl⟩
      refine sg ?_
      refine afs (sg ?_)
      refine afs (sg ?_)
      refine afs (sg ?_)
      refine afs (sg ?_)
      refine afs (sg ?_)
      refine ⟨?_, ?_⟩
      · refine afs (sg ?_)
        refine ⟨?_, ?_⟩
        · refine cl [] (sg ?_)
          refine (c8 _ _ _ _ (by first | assumption | omega | trivial | rfl) (by first | assumption | omega | trivial | rfl) (by first | assumption | omega | trivial | rfl)).mono ?_
          rintro r bx ⟨rfl, rfl⟩
          refine sg ?_
          refine afs (sg ?_)
          refine afs (sg ?_)
          refine cl [] (sg ?_)
          refine (c9 _ _ _ _ (by first | assumption | omega | trivial | rfl) (by first | assumption | omega | trivial | rfl) (by first | assumption | omega | trivial | rfl)).mono ?_
          rintro r bx ⟨rfl, rfl⟩
          refine sg ?_
          refine afs (sg ?_)
          refine afs (sg ?_)
          refine afs (sg ?_)
          refine nx ?_
          refine cf (hy := ?_)
          refine sk (sg ?_)
          refine nx ?_
          refine sq fun _ _ => ?_
          refine dfs (.take 0 <| .one 1 <| .pure 2 <| .pure 3 <| .two 4 6 (.two 5 6 (.one 6 <| .one 7 <| .one 8 <| .pure 9 <| .pure 10 <| .one 11 <| .pure 12 <| .pure 13 <| .nil) (.one 5 <| .one 7 <| .one 8 <| .pure 9 <| .pure 10 <| .one 11 <| .pure 12 <| .pure 13 <| .nil)) (.one 4 <| .one 5 <| .one 7 <| .one 8 <| .pure 9 <| .pure 10 <| .one 11 <| .pure 12 <| .pure 13 <| .nil)) [] ?_
          refine afs (sg ?_)
          refine afs (sg ?_)
          refine cl [] (sg ?_)
          refine (c10 _ (by first | assumption | omega | trivial | rfl)).mono ?_
          rintro r bx ⟨rfl, rfl⟩
          refine sg ?_
          refine afs (sg ?_)
          refine afs (sg ?_)
          refine afs (sg ?_)
          cases hm : mayP p
          · refine ⟨?_, ?_⟩
            · refine afs (sg ?_)
              simp only [undef]
              refine ⟨?_, ?_⟩
              · refine afs (sg ?_)
                refine afs (sg ?_)
                refine afs (sg ?_)
                refine afs (sg ?_)
                refine afs (sg ?_)
                refine afs (sg ?_)
                simp only [undef]
                refine sg ?_
                refine cl [] (sg ?_)
                refine (c5).mono ?_
                rintro r bx ⟨rfl, rfl⟩
                refine sg ?_
                refine afs (sg ?_)
                refine afs (sg ?_)
                refine afs (sg ?_)
                refine nx ?_
                refine rt ?_
                refine f1 (g := sg ?_)
                exact ax [] ⟨rfl, rfl⟩
              · refine afs (sg ?_)
                refine afs (sg ?_)
                refine afs (sg ?_)
                refine afs (sg ?_)
                refine afs (sg ?_)
                refine afs (sg ?_)
                simp only [undef]
                refine sg ?_
                refine cl [] (sg ?_)
                refine (c5).mono ?_
                rintro r bx ⟨rfl, rfl⟩
                refine sg ?_
                refine afs (sg ?_)
                refine afs (sg ?_)
                refine afs (sg ?_)
                refine nx ?_
                refine rt ?_
                refine f1 (g := sg ?_)
                exact ax [] ⟨rfl, rfl⟩
            · refine afs (sg ?_)
              refine afs (sg ?_)
              refine afs (sg ?_)
              refine afs (sg ?_)
              refine afs (sg ?_)
              refine afs (sg ?_)
              refine afs (sg ?_)
              simp only [undef]
              refine sg ?_
              refine cl [] (sg ?_)
              refine (c5).mono ?_
              rintro r bx ⟨rfl, rfl⟩
              refine sg ?_
              refine afs (sg ?_)
              refine afs (sg ?_)
              refine afs (sg ?_)
              refine nx ?_
              refine rt ?_
              refine f1 (g := sg ?_)
              exact ax [] ⟨rfl, rfl⟩
          · obtain ⟨hct, hdp, -⟩ := sz_cnt hm
            have hc5 : p.cnt ≤ 500 := by omega
            have hcl : (colsP p []).length ≤ 1000 := by
              have h := (colsP_len p []).1
              simp only [List.length_nil] at h
              omega
            refine ⟨?_, ?_⟩
            · refine afs (sg ?_)
              refine ⟨?_, ?_⟩
              · refine cl [] (sg ?_)
                refine (c12 _ (by first | assumption | omega | trivial | rfl) (by first | assumption | omega | trivial | rfl) (by first | assumption | omega | trivial | rfl)).mono ?_
                rintro r bx ⟨rfl, rfl⟩
                refine sg ?_
                refine afs (sg ?_)
                refine afs (sg ?_)
                refine cl [] (sg ?_)
                refine (c13n p sp hc5).mono ?_
                rintro r bx (⟨hB, rfl, rfl⟩ | ⟨rfl, rfl⟩)
                · refine sg ?_
                  refine afs (sg ?_)
                  refine cl [] (sg ?_)
                  refine (PC.le (c11 (colsP p []) [] hcl (by simp))).mono ?_
                  rintro r bx ⟨rfl, rfl⟩
                  rw [decide_eq_true hB]
                  refine sg ?_
                  refine afs (sg ?_)
                  refine afs (sg ?_)
                  refine afs (sg ?_)
                  refine cl [] (sg ?_)
                  refine (c5).mono ?_
                  rintro r bx ⟨rfl, rfl⟩
                  refine sg ?_
                  refine afs (sg ?_)
                  refine afs (sg ?_)
                  refine afs (sg ?_)
                  refine nx ?_
                  refine rt ?_
                  refine f1 (g := sg ?_)
                  exact ax [] ⟨rfl, rfl⟩
                · refine sg ?_
                  refine afs (sg ?_)
                  refine cl [] (sg ?_)
                  refine (c11 _ _ (by first | assumption | omega | trivial | rfl) (by first | assumption | omega | trivial | rfl)).mono ?_
                  rintro r bx ⟨rfl, rfl⟩
                  refine sg ?_
                  refine .inl ⟨by simp [cleanA, leafIn, cleanL], by trivial, ?_⟩
                  refine afs (sg ?_)
                  refine afs (sg ?_)
                  refine afs (sg ?_)
                  refine cl [] (sg ?_)
                  refine (c5).mono ?_
                  rintro r bx ⟨rfl, rfl⟩
                  refine sg ?_
                  refine afs (sg ?_)
                  refine afs (sg ?_)
                  refine afs (sg ?_)
                  refine nx ?_
                  refine rt ?_
                  refine f1 (g := sg ?_)
                  exact ax [] ⟨rfl, rfl⟩
              · refine afs (sg ?_)
                refine cl [] (sg ?_)
                refine (c12 _ (by first | assumption | omega | trivial | rfl) (by first | assumption | omega | trivial | rfl) (by first | assumption | omega | trivial | rfl)).mono ?_
                rintro r bx ⟨rfl, rfl⟩
                refine sg ?_
                refine afs (sg ?_)
                refine cl [] (sg ?_)
                refine (c13n p sp hc5).mono ?_
                rintro r bx (⟨hB, rfl, rfl⟩ | ⟨rfl, rfl⟩)
                · refine sg ?_
                  refine afs (sg ?_)
                  refine cl [] (sg ?_)
                  refine (PC.le (c11 (colsP p []) [] hcl (by simp))).mono ?_
                  rintro r bx ⟨rfl, rfl⟩
                  rw [decide_eq_true hB]
                  refine sg ?_
                  refine afs (sg ?_)
                  refine afs (sg ?_)
                  refine afs (sg ?_)
                  refine cl [] (sg ?_)
                  refine (c5).mono ?_
                  rintro r bx ⟨rfl, rfl⟩
                  refine sg ?_
                  refine afs (sg ?_)
                  refine afs (sg ?_)
                  refine afs (sg ?_)
                  refine nx ?_
                  refine rt ?_
                  refine f1 (g := sg ?_)
                  exact ax [] ⟨rfl, rfl⟩
                · refine sg ?_
                  refine afs (sg ?_)
                  refine cl [] (sg ?_)
                  refine (c11 _ _ (by first | assumption | omega | trivial | rfl) (by first | assumption | omega | trivial | rfl)).mono ?_
                  rintro r bx ⟨rfl, rfl⟩
                  refine sg ?_
                  refine .inl ⟨by simp [cleanA, leafIn, cleanL], by trivial, ?_⟩
                  refine afs (sg ?_)
                  refine afs (sg ?_)
                  refine afs (sg ?_)
                  refine cl [] (sg ?_)
                  refine (c5).mono ?_
                  rintro r bx ⟨rfl, rfl⟩
                  refine sg ?_
                  refine afs (sg ?_)
                  refine afs (sg ?_)
                  refine afs (sg ?_)
                  refine nx ?_
                  refine rt ?_
                  refine f1 (g := sg ?_)
                  exact ax [] ⟨rfl, rfl⟩
            · refine afs (sg ?_)
              refine afs (sg ?_)
              refine cl [] (sg ?_)
              refine (c12 _ (by first | assumption | omega | trivial | rfl) (by first | assumption | omega | trivial | rfl) (by first | assumption | omega | trivial | rfl)).mono ?_
              rintro r bx ⟨rfl, rfl⟩
              refine sg ?_
              refine afs (sg ?_)
              refine cl [] (sg ?_)
              refine (c13n p sp hc5).mono ?_
              rintro r bx (⟨hB, rfl, rfl⟩ | ⟨rfl, rfl⟩)
              · refine sg ?_
                refine afs (sg ?_)
                refine cl [] (sg ?_)
                refine (PC.le (c11 (colsP p []) [] hcl (by simp))).mono ?_
                rintro r bx ⟨rfl, rfl⟩
                rw [decide_eq_true hB]
                refine sg ?_
                refine afs (sg ?_)
                refine afs (sg ?_)
                refine afs (sg ?_)
                refine cl [] (sg ?_)
                refine (c5).mono ?_
                rintro r bx ⟨rfl, rfl⟩
                refine sg ?_
                refine afs (sg ?_)
                refine afs (sg ?_)
                refine afs (sg ?_)
                refine nx ?_
                refine rt ?_
                refine f1 (g := sg ?_)
                exact ax [] ⟨rfl, rfl⟩
              · refine sg ?_
                refine afs (sg ?_)
                refine cl [] (sg ?_)
                refine (c11 _ _ (by first | assumption | omega | trivial | rfl) (by first | assumption | omega | trivial | rfl)).mono ?_
                rintro r bx ⟨rfl, rfl⟩
                refine sg ?_
                refine .inl ⟨by simp [cleanA, leafIn, cleanL], by trivial, ?_⟩
                refine afs (sg ?_)
                refine afs (sg ?_)
                refine afs (sg ?_)
                refine cl [] (sg ?_)
                refine (c5).mono ?_
                rintro r bx ⟨rfl, rfl⟩
                refine sg ?_
                refine afs (sg ?_)
                refine afs (sg ?_)
                refine afs (sg ?_)
                refine nx ?_
                refine rt ?_
                refine f1 (g := sg ?_)
                exact ax [] ⟨rfl, rfl⟩
        · refine afs (sg ?_)
          refine cl [] (sg ?_)
          refine (c8 _ _ _ _ (by first | assumption | omega | trivial | rfl) (by first | assumption | omega | trivial | rfl) (by first | assumption | omega | trivial | rfl)).mono ?_
          rintro r bx ⟨rfl, rfl⟩
          refine sg ?_
          refine afs (sg ?_)
          refine cl [] (sg ?_)
          refine (c9 _ _ _ _ (by first | assumption | omega | trivial | rfl) (by first | assumption | omega | trivial | rfl) (by first | assumption | omega | trivial | rfl)).mono ?_
          rintro r bx ⟨rfl, rfl⟩
          refine sg ?_
          refine afs (sg ?_)
          refine afs (sg ?_)
          refine afs (sg ?_)
          refine nx ?_
          refine cf (hy := ?_)
          refine sk (sg ?_)
          refine nx ?_
          refine sq fun _ _ => ?_
          refine dfs (.take 0 <| .one 1 <| .pure 2 <| .pure 3 <| .two 4 6 (.two 5 6 (.one 6 <| .one 7 <| .one 8 <| .pure 9 <| .pure 10 <| .one 11 <| .pure 12 <| .pure 13 <| .nil) (.one 5 <| .one 7 <| .one 8 <| .pure 9 <| .pure 10 <| .one 11 <| .pure 12 <| .pure 13 <| .nil)) (.one 4 <| .one 5 <| .one 7 <| .one 8 <| .pure 9 <| .pure 10 <| .one 11 <| .pure 12 <| .pure 13 <| .nil)) [] ?_
          refine afs (sg ?_)
          refine afs (sg ?_)
          refine cl [] (sg ?_)
          refine (c10 _ (by first | assumption | omega | trivial | rfl)).mono ?_
          rintro r bx ⟨rfl, rfl⟩
          refine sg ?_
          refine afs (sg ?_)
          refine afs (sg ?_)
          refine afs (sg ?_)
          cases hm : mayP p
          · refine ⟨?_, ?_⟩
            · refine afs (sg ?_)
              simp only [undef]
              refine ⟨?_, ?_⟩
              · refine afs (sg ?_)
                refine afs (sg ?_)
                refine afs (sg ?_)
                refine afs (sg ?_)
                refine afs (sg ?_)
                refine afs (sg ?_)
                simp only [undef]
                refine sg ?_
                refine cl [] (sg ?_)
                refine (c5).mono ?_
                rintro r bx ⟨rfl, rfl⟩
                refine sg ?_
                refine afs (sg ?_)
                refine afs (sg ?_)
                refine afs (sg ?_)
                refine nx ?_
                refine rt ?_
                refine f1 (g := sg ?_)
                exact ax [] ⟨rfl, rfl⟩
              · refine afs (sg ?_)
                refine afs (sg ?_)
                refine afs (sg ?_)
                refine afs (sg ?_)
                refine afs (sg ?_)
                refine afs (sg ?_)
                simp only [undef]
                refine sg ?_
                refine cl [] (sg ?_)
                refine (c5).mono ?_
                rintro r bx ⟨rfl, rfl⟩
                refine sg ?_
                refine afs (sg ?_)
                refine afs (sg ?_)
                refine afs (sg ?_)
                refine nx ?_
                refine rt ?_
                refine f1 (g := sg ?_)
                exact ax [] ⟨rfl, rfl⟩
            · refine afs (sg ?_)
              refine afs (sg ?_)
              refine afs (sg ?_)
              refine afs (sg ?_)
              refine afs (sg ?_)
              refine afs (sg ?_)
              refine afs (sg ?_)
              simp only [undef]
              refine sg ?_
              refine cl [] (sg ?_)
              refine (c5).mono ?_
              rintro r bx ⟨rfl, rfl⟩
              refine sg ?_
              refine afs (sg ?_)
              refine afs (sg ?_)
              refine afs (sg ?_)
              refine nx ?_
              refine rt ?_
              refine f1 (g := sg ?_)
              exact ax [] ⟨rfl, rfl⟩
          · obtain ⟨hct, hdp, -⟩ := sz_cnt hm
            have hc5 : p.cnt ≤ 500 := by omega
            have hcl : (colsP p []).length ≤ 1000 := by
              have h := (colsP_len p []).1
              simp only [List.length_nil] at h
              omega
            refine ⟨?_, ?_⟩
            · refine afs (sg ?_)
              refine ⟨?_, ?_⟩
              · refine cl [] (sg ?_)
                refine (c12 _ (by first | assumption | omega | trivial | rfl) (by first | assumption | omega | trivial | rfl) (by first | assumption | omega | trivial | rfl)).mono ?_
                rintro r bx ⟨rfl, rfl⟩
                refine sg ?_
                refine afs (sg ?_)
                refine afs (sg ?_)
                refine cl [] (sg ?_)
                refine (c13n p sp hc5).mono ?_
                rintro r bx (⟨hB, rfl, rfl⟩ | ⟨rfl, rfl⟩)
                · refine sg ?_
                  refine afs (sg ?_)
                  refine cl [] (sg ?_)
                  refine (PC.le (c11 (colsP p []) [] hcl (by simp))).mono ?_
                  rintro r bx ⟨rfl, rfl⟩
                  rw [decide_eq_true hB]
                  refine sg ?_
                  refine afs (sg ?_)
                  refine afs (sg ?_)
                  refine afs (sg ?_)
                  refine cl [] (sg ?_)
                  refine (c5).mono ?_
                  rintro r bx ⟨rfl, rfl⟩
                  refine sg ?_
                  refine afs (sg ?_)
                  refine afs (sg ?_)
                  refine afs (sg ?_)
                  refine nx ?_
                  refine rt ?_
                  refine f1 (g := sg ?_)
                  exact ax [] ⟨rfl, rfl⟩
                · refine sg ?_
                  refine afs (sg ?_)
                  refine cl [] (sg ?_)
                  refine (c11 _ _ (by first | assumption | omega | trivial | rfl) (by first | assumption | omega | trivial | rfl)).mono ?_
                  rintro r bx ⟨rfl, rfl⟩
                  refine sg ?_
                  refine .inl ⟨by simp [cleanA, leafIn, cleanL], by trivial, ?_⟩
                  refine afs (sg ?_)
                  refine afs (sg ?_)
                  refine afs (sg ?_)
                  refine cl [] (sg ?_)
                  refine (c5).mono ?_
                  rintro r bx ⟨rfl, rfl⟩
                  refine sg ?_
                  refine afs (sg ?_)
                  refine afs (sg ?_)
                  refine afs (sg ?_)
                  refine nx ?_
                  refine rt ?_
                  refine f1 (g := sg ?_)
                  exact ax [] ⟨rfl, rfl⟩
              · refine afs (sg ?_)
                refine cl [] (sg ?_)
                refine (c12 _ (by first | assumption | omega | trivial | rfl) (by first | assumption | omega | trivial | rfl) (by first | assumption | omega | trivial | rfl)).mono ?_
                rintro r bx ⟨rfl, rfl⟩
                refine sg ?_
                refine afs (sg ?_)
                refine cl [] (sg ?_)
                refine (c13n p sp hc5).mono ?_
                rintro r bx (⟨hB, rfl, rfl⟩ | ⟨rfl, rfl⟩)
                · refine sg ?_
                  refine afs (sg ?_)
                  refine cl [] (sg ?_)
                  refine (PC.le (c11 (colsP p []) [] hcl (by simp))).mono ?_
                  rintro r bx ⟨rfl, rfl⟩
                  rw [decide_eq_true hB]
                  refine sg ?_
                  refine afs (sg ?_)
                  refine afs (sg ?_)
                  refine afs (sg ?_)
                  refine cl [] (sg ?_)
                  refine (c5).mono ?_
                  rintro r bx ⟨rfl, rfl⟩
                  refine sg ?_
                  refine afs (sg ?_)
                  refine afs (sg ?_)
                  refine afs (sg ?_)
                  refine nx ?_
                  refine rt ?_
                  refine f1 (g := sg ?_)
                  exact ax [] ⟨rfl, rfl⟩
                · refine sg ?_
                  refine afs (sg ?_)
                  refine cl [] (sg ?_)
                  refine (c11 _ _ (by first | assumption | omega | trivial | rfl) (by first | assumption | omega | trivial | rfl)).mono ?_
                  rintro r bx ⟨rfl, rfl⟩
                  refine sg ?_
                  refine .inl ⟨by simp [cleanA, leafIn, cleanL], by trivial, ?_⟩
                  refine afs (sg ?_)
                  refine afs (sg ?_)
                  refine afs (sg ?_)
                  refine cl [] (sg ?_)
                  refine (c5).mono ?_
                  rintro r bx ⟨rfl, rfl⟩
                  refine sg ?_
                  refine afs (sg ?_)
                  refine afs (sg ?_)
                  refine afs (sg ?_)
                  refine nx ?_
                  refine rt ?_
                  refine f1 (g := sg ?_)
                  exact ax [] ⟨rfl, rfl⟩
            · refine afs (sg ?_)
              refine afs (sg ?_)
              refine cl [] (sg ?_)
              refine (c12 _ (by first | assumption | omega | trivial | rfl) (by first | assumption | omega | trivial | rfl) (by first | assumption | omega | trivial | rfl)).mono ?_
              rintro r bx ⟨rfl, rfl⟩
              refine sg ?_
              refine afs (sg ?_)
              refine cl [] (sg ?_)
              refine (c13n p sp hc5).mono ?_
              rintro r bx (⟨hB, rfl, rfl⟩ | ⟨rfl, rfl⟩)
              · refine sg ?_
                refine afs (sg ?_)
                refine cl [] (sg ?_)
                refine (PC.le (c11 (colsP p []) [] hcl (by simp))).mono ?_
                rintro r bx ⟨rfl, rfl⟩
                rw [decide_eq_true hB]
                refine sg ?_
                refine afs (sg ?_)
                refine afs (sg ?_)
                refine afs (sg ?_)
                refine cl [] (sg ?_)
                refine (c5).mono ?_
                rintro r bx ⟨rfl, rfl⟩
                refine sg ?_
                refine afs (sg ?_)
                refine afs (sg ?_)
                refine afs (sg ?_)
                refine nx ?_
                refine rt ?_
                refine f1 (g := sg ?_)
                exact ax [] ⟨rfl, rfl⟩
              · refine sg ?_
                refine afs (sg ?_)
                refine cl [] (sg ?_)
                refine (c11 _ _ (by first | assumption | omega | trivial | rfl) (by first | assumption | omega | trivial | rfl)).mono ?_
                rintro r bx ⟨rfl, rfl⟩
                refine sg ?_
                refine .inl ⟨by simp [cleanA, leafIn, cleanL], by trivial, ?_⟩
                refine afs (sg ?_)
                refine afs (sg ?_)
                refine afs (sg ?_)
                refine cl [] (sg ?_)
                refine (c5).mono ?_
                rintro r bx ⟨rfl, rfl⟩
                refine sg ?_
                refine afs (sg ?_)
                refine afs (sg ?_)
                refine afs (sg ?_)
                refine nx ?_
                refine rt ?_
                refine f1 (g := sg ?_)
                exact ax [] ⟨rfl, rfl⟩
      · refine afs (sg ?_)
        refine afs (sg ?_)
        refine cl [] (sg ?_)
        refine (c8 _ _ _ _ (by first | assumption | omega | trivial | rfl) (by first | assumption | omega | trivial | rfl) (by first | assumption | omega | trivial | rfl)).mono ?_
        rintro r bx ⟨rfl, rfl⟩
        refine sg ?_
        refine afs (sg ?_)
        refine cl [] (sg ?_)
        refine (c9 _ _ _ _ (by first | assumption | omega | trivial | rfl) (by first | assumption | omega | trivial | rfl) (by first | assumption | omega | trivial | rfl)).mono ?_
        rintro r bx ⟨rfl, rfl⟩
        refine sg ?_
        refine afs (sg ?_)
        refine afs (sg ?_)
        refine afs (sg ?_)
        refine nx ?_
        refine cf (hy := ?_)
        refine sk (sg ?_)
        refine nx ?_
        refine sq fun _ _ => ?_
        refine dfs (.take 0 <| .one 1 <| .pure 2 <| .pure 3 <| .two 4 6 (.two 5 6 (.one 6 <| .one 7 <| .one 8 <| .pure 9 <| .pure 10 <| .one 11 <| .pure 12 <| .pure 13 <| .nil) (.one 5 <| .one 7 <| .one 8 <| .pure 9 <| .pure 10 <| .one 11 <| .pure 12 <| .pure 13 <| .nil)) (.one 4 <| .one 5 <| .one 7 <| .one 8 <| .pure 9 <| .pure 10 <| .one 11 <| .pure 12 <| .pure 13 <| .nil)) [] ?_
        refine afs (sg ?_)
        refine afs (sg ?_)
        refine cl [] (sg ?_)
        refine (c10 _ (by first | assumption | omega | trivial | rfl)).mono ?_
        rintro r bx ⟨rfl, rfl⟩
        refine sg ?_
        refine afs (sg ?_)
        refine afs (sg ?_)
        refine afs (sg ?_)
        cases hm : mayP p
        · refine ⟨?_, ?_⟩
          · refine afs (sg ?_)
            simp only [undef]
            refine ⟨?_, ?_⟩
            · refine afs (sg ?_)
              refine afs (sg ?_)
              refine afs (sg ?_)
              refine afs (sg ?_)
              refine afs (sg ?_)
              refine afs (sg ?_)
              simp only [undef]
              refine sg ?_
              refine cl [] (sg ?_)
              refine (c5).mono ?_
              rintro r bx ⟨rfl, rfl⟩
              refine sg ?_
              refine afs (sg ?_)
              refine afs (sg ?_)
              refine afs (sg ?_)
              refine nx ?_
              refine rt ?_
              refine f1 (g := sg ?_)
              exact ax [] ⟨rfl, rfl⟩
            · refine afs (sg ?_)
              refine afs (sg ?_)
              refine afs (sg ?_)
              refine afs (sg ?_)
              refine afs (sg ?_)
              refine afs (sg ?_)
              simp only [undef]
              refine sg ?_
              refine cl [] (sg ?_)
              refine (c5).mono ?_
              rintro r bx ⟨rfl, rfl⟩
              refine sg ?_
              refine afs (sg ?_)
              refine afs (sg ?_)
              refine afs (sg ?_)
              refine nx ?_
              refine rt ?_
              refine f1 (g := sg ?_)
              exact ax [] ⟨rfl, rfl⟩
          · refine afs (sg ?_)
            refine afs (sg ?_)
            refine afs (sg ?_)
            refine afs (sg ?_)
            refine afs (sg ?_)
            refine afs (sg ?_)
            refine afs (sg ?_)
            simp only [undef]
            refine sg ?_
            refine cl [] (sg ?_)
            refine (c5).mono ?_
            rintro r bx ⟨rfl, rfl⟩
            refine sg ?_
            refine afs (sg ?_)
            refine afs (sg ?_)
            refine afs (sg ?_)
            refine nx ?_
            refine rt ?_
            refine f1 (g := sg ?_)
            exact ax [] ⟨rfl, rfl⟩
        · obtain ⟨hct, hdp, -⟩ := sz_cnt hm
          have hc5 : p.cnt ≤ 500 := by omega
          have hcl : (colsP p []).length ≤ 1000 := by
            have h := (colsP_len p []).1
            simp only [List.length_nil] at h
            omega
          refine ⟨?_, ?_⟩
          · refine afs (sg ?_)
            refine ⟨?_, ?_⟩
            · refine cl [] (sg ?_)
              refine (c12 _ (by first | assumption | omega | trivial | rfl) (by first | assumption | omega | trivial | rfl) (by first | assumption | omega | trivial | rfl)).mono ?_
              rintro r bx ⟨rfl, rfl⟩
              refine sg ?_
              refine afs (sg ?_)
              refine afs (sg ?_)
              refine cl [] (sg ?_)
              refine (c13n p sp hc5).mono ?_
              rintro r bx (⟨hB, rfl, rfl⟩ | ⟨rfl, rfl⟩)
              · refine sg ?_
                refine afs (sg ?_)
                refine cl [] (sg ?_)
                refine (PC.le (c11 (colsP p []) [] hcl (by simp))).mono ?_
                rintro r bx ⟨rfl, rfl⟩
                rw [decide_eq_true hB]
                refine sg ?_
                refine afs (sg ?_)
                refine afs (sg ?_)
                refine afs (sg ?_)
                refine cl [] (sg ?_)
                refine (c5).mono ?_
                rintro r bx ⟨rfl, rfl⟩
                refine sg ?_
                refine afs (sg ?_)
                refine afs (sg ?_)
                refine afs (sg ?_)
                refine nx ?_
                refine rt ?_
                refine f1 (g := sg ?_)
                exact ax [] ⟨rfl, rfl⟩
              · refine sg ?_
                refine afs (sg ?_)
                refine cl [] (sg ?_)
                refine (c11 _ _ (by first | assumption | omega | trivial | rfl) (by first | assumption | omega | trivial | rfl)).mono ?_
                rintro r bx ⟨rfl, rfl⟩
                refine sg ?_
                refine .inl ⟨by simp [cleanA, leafIn, cleanL], by trivial, ?_⟩
                refine afs (sg ?_)
                refine afs (sg ?_)
                refine afs (sg ?_)
                refine cl [] (sg ?_)
                refine (c5).mono ?_
                rintro r bx ⟨rfl, rfl⟩
                refine sg ?_
                refine afs (sg ?_)
                refine afs (sg ?_)
                refine afs (sg ?_)
                refine nx ?_
                refine rt ?_
                refine f1 (g := sg ?_)
                exact ax [] ⟨rfl, rfl⟩
            · refine afs (sg ?_)
              refine cl [] (sg ?_)
              refine (c12 _ (by first | assumption | omega | trivial | rfl) (by first | assumption | omega | trivial | rfl) (by first | assumption | omega | trivial | rfl)).mono ?_
              rintro r bx ⟨rfl, rfl⟩
              refine sg ?_
              refine afs (sg ?_)
              refine cl [] (sg ?_)
              refine (c13n p sp hc5).mono ?_
              rintro r bx (⟨hB, rfl, rfl⟩ | ⟨rfl, rfl⟩)
              · refine sg ?_
                refine afs (sg ?_)
                refine cl [] (sg ?_)
                refine (PC.le (c11 (colsP p []) [] hcl (by simp))).mono ?_
                rintro r bx ⟨rfl, rfl⟩
                rw [decide_eq_true hB]
                refine sg ?_
                refine afs (sg ?_)
                refine afs (sg ?_)
                refine afs (sg ?_)
                refine cl [] (sg ?_)
                refine (c5).mono ?_
                rintro r bx ⟨rfl, rfl⟩
                refine sg ?_
                refine afs (sg ?_)
                refine afs (sg ?_)
                refine afs (sg ?_)
                refine nx ?_
                refine rt ?_
                refine f1 (g := sg ?_)
                exact ax [] ⟨rfl, rfl⟩
              · refine sg ?_
                refine afs (sg ?_)
                refine cl [] (sg ?_)
                refine (c11 _ _ (by first | assumption | omega | trivial | rfl) (by first | assumption | omega | trivial | rfl)).mono ?_
                rintro r bx ⟨rfl, rfl⟩
                refine sg ?_
                refine .inl ⟨by simp [cleanA, leafIn, cleanL], by trivial, ?_⟩
                refine afs (sg ?_)
                refine afs (sg ?_)
                refine afs (sg ?_)
                refine cl [] (sg ?_)
                refine (c5).mono ?_
                rintro r bx ⟨rfl, rfl⟩
                refine sg ?_
                refine afs (sg ?_)
                refine afs (sg ?_)
                refine afs (sg ?_)
                refine nx ?_
                refine rt ?_
                refine f1 (g := sg ?_)
                exact ax [] ⟨rfl, rfl⟩
          · refine afs (sg ?_)
            refine afs (sg ?_)
            refine cl [] (sg ?_)
            refine (c12 _ (by first | assumption | omega | trivial | rfl) (by first | assumption | omega | trivial | rfl) (by first | assumption | omega | trivial | rfl)).mono ?_
            rintro r bx ⟨rfl, rfl⟩
            refine sg ?_
            refine afs (sg ?_)
            refine cl [] (sg ?_)
            refine (c13n p sp hc5).mono ?_
            rintro r bx (⟨hB, rfl, rfl⟩ | ⟨rfl, rfl⟩)
            · refine sg ?_
              refine afs (sg ?_)
              refine cl [] (sg ?_)
              refine (PC.le (c11 (colsP p []) [] hcl (by simp))).mono ?_
              rintro r bx ⟨rfl, rfl⟩
              rw [decide_eq_true hB]
              refine sg ?_
              refine afs (sg ?_)
              refine afs (sg ?_)
              refine afs (sg ?_)
              refine cl [] (sg ?_)
              refine (c5).mono ?_
              rintro r bx ⟨rfl, rfl⟩
              refine sg ?_
              refine afs (sg ?_)
              refine afs (sg ?_)
              refine afs (sg ?_)
              refine nx ?_
              refine rt ?_
              refine f1 (g := sg ?_)
              exact ax [] ⟨rfl, rfl⟩
            · refine sg ?_
              refine afs (sg ?_)
              refine cl [] (sg ?_)
              refine (c11 _ _ (by first | assumption | omega | trivial | rfl) (by first | assumption | omega | trivial | rfl)).mono ?_
              rintro r bx ⟨rfl, rfl⟩
              refine sg ?_
              refine .inl ⟨by simp [cleanA, leafIn, cleanL], by trivial, ?_⟩
              refine afs (sg ?_)
              refine afs (sg ?_)
              refine afs (sg ?_)
              refine cl [] (sg ?_)
              refine (c5).mono ?_
              rintro r bx ⟨rfl, rfl⟩
              refine sg ?_
              refine afs (sg ?_)
              refine afs (sg ?_)
              refine afs (sg ?_)
              refine nx ?_
              refine rt ?_
              refine f1 (g := sg ?_)
              exact ax [] ⟨rfl, rfl⟩
end
section
open Go.ChangeShapes Go.WideShapes Go.ChangeAt
theorem PC.told {P : Program} {f : FuncId} {args : List A} {t : Bool} (h : PC P f args [] (fun r bx => r = .one (.c (.v (.bool t))) ∧ bx = [])) (w : World) (cargs : Array Value) (hs : Start w) (hg : ∀ g, g ∈ glIds → g < w.heap.size) (hl : args.length = cargs.size)
    (ha : ∀ (j : Nat) a, args[j]? = some a → ∃ v, cargs[j]? = some v ∧ RA (RL [] (fun k => k < w.heap.size) w) a v) :
    Calls P f cargs w fun e w' => e = .returned (.bool t) ∧ Below w.heap.size w w' := by
  have hm : Mem [] (fun k => k < w.heap.size) [] w := ⟨rfl, fun i j b b' g h _ _ _ _ _ => by simp at h, fun i b g h => by simp at h, fun g h => (nomatch h), fun k h => h, fun i b g h => by simp at h, ⟨w, hs, fun g h => ⟨hg g h, rfl⟩⟩⟩
  refine (h.2 _ [] w cargs (fun b h => by cases h) hm hl ha).mono fun e w' ⟨cv, r, bx, ν, ok', he, ⟨hr, hb⟩, hR, hM, hν, hF, _⟩ => ?_
  subst hr
  have hcv : cv = .bool t := hR
  subst hcv
  exact ⟨he, hF.below⟩
theorem own : ownKnob Tryd.prog.godebug = none := by kernel_rfl
end
section
set_option maxRecDepth 100000
section
variable {H : Type} {enc : TypeId × Value → H}
/-- A law over a laid world, whose shape is kept. -/
theorem handed_both {a : Assume} {C : Checked} {os : Os} {f : FuncId} {fn : Func} {s : ChangeSpec} {conds : List PathCond} {apart fresh handsOn again : Bool} {X : World → Array Value → Prop}
    (hX : ∀ (w w' : World) (args : Array Value), w.heap = w'.heap → X w args → X w' args)
    (own : ownKnob C.prog.godebug = none) (started : os.Started) (noInit : C.prog.inits.idxOf? f = none) (hfn : C.prog.funcs[f]? = some fn)
    (witness : ∃ (w : World) (tape : Tape) (i : Input), w.os = os ∧ (w.forCall tape i).Shaped C.prog ∧ i.vars = [] ∧ Input.okWide C.prog (w.forCall tape i) .any w.heap.size f i ∧
      ((s.pre enc C.prog fn conds apart (w.forCall tape i).memory i.args ∧ X (w.forCall tape i).memory i.args) ∧ sizedMet enc C.prog fn (OpenSpec.ofChange s) apart (w.forCall tape i).memory i.args) ∧ a.holds C.prog (lone (Frame.enter C.prog f i.args .normal) [] (w.forCall tape i)))
    (contract : ∀ (W : World) (base : Nat) (args : Array Value) (ds gs : List (DataW H)) (before : List MemPlace),
      (∀ (j : Nat) t v, fn.params[j]? = some t → args[j]? = some v → Value.okWide C.prog W .any base t v) →
      DataW.Whole enc C.prog fn.params.toList s.vars apart W args.toList ds gs before → X W args → W.ShapedOpen C.prog →
      Calls C.prog f args W fun e W' => ∃ v, e = .returned v ∧ s.post enc C.prog fn apart fresh handsOn again W args v W') :
    ReturnsInHanded a C os f .any (fun w args => (s.pre enc C.prog fn conds apart w args ∧ X w args) ∧ sizedMet enc C.prog fn (OpenSpec.ofChange s) apart w args) (s.post enc C.prog fn apart fresh handsOn again) := by
  refine returnsInHanded_of_calls own started noInit witness ?_
  intro w tape i _ hsh _ hok hpre hholds
  obtain ⟨_, _, _, fn', hfn', _, _, _, _, hval⟩ := hok
  have e : fn' = fn := Option.some.inj (hfn'.symm.trans hfn)
  subst e
  obtain ⟨⟨⟨ds, gs, before, hw, hc⟩, hx⟩, hz⟩ := hpre
  refine (contract (w.forCall tape i) w.heap.size i.args ds gs before hval (DataW.Whole.of_heap (w' := w.forCall tape i) (by rfl) hw) (hX _ _ _ (by rfl) hx) hsh).mono fun e W' ⟨v, he, hp⟩ => ?_
  subst he
  exact ChangeSpec.post_blind hp
end
theorem lt_var {P : Program} {W : World} {n : String} {g : Nat} {cs : Array Value} (hg : P.globalNamed n = some g) (h : W.var? P n = some cs) : g < W.heap.size := by
  unfold World.var? at h
  simp only [hg, Option.bind_some] at h
  rcases Nat.lt_or_ge g W.heap.size with h' | h'
  · exact h'
  · simp [Array.getElem?_eq_none h'] at h
theorem lt_cell {W : World} {g : Nat} {v : Value} (h : W.cell? ⟨g, 0, none⟩ = some v) : g < W.heap.size := by
  rcases Nat.lt_or_ge g W.heap.size with h' | h'
  · exact h'
  · simp [World.cell?, Array.getElem?_eq_none h'] at h
theorem maxLen_cell {W : World} (h : W.ShapedOpen Tryd.prog) : ∃ m : Int, W.cell? ⟨1, 0, none⟩ = some (.int .i64 m) :=
  cell_of_shapedOpen_int (t := 3) (zero := #[.int .i64 0]) h (by rw [show Tryd.prog.globals.size = 6 from by kernel_rfl]; decide) (by kernel_rfl) rfl (by kernel_rfl) (by kernel_rfl) Tryd.underlying3
end
section
set_option maxRecDepth 100000
abbrev laidP : List (String × DataW Unit) := [("math/bits.deBruijn32tab", Rows.laid_math_bits_deBruijn32tab), ("math/bits.deBruijn64tab", Rows.laid_math_bits_deBruijn64tab), ("internal/strconv.uint64pow10", Rows.laid_internal_strconv_uint64pow10), ("unicode/utf8.acceptRanges", Rows.laid_unicode_utf8_acceptRanges), ("unicode/utf8.first", Rows.laid_unicode_utf8_first)]
theorem startP {W : World} (h0 : laidMetH Tryd.prog laidP W) (hsh : W.ShapedOpen Tryd.prog) : Start W ∧ ∀ g ∈ glIds, g < W.heap.size := by
  rw [MakeChecks.laidMetH_plain _ _ _ (by kernel_rfl)] at h0
  obtain ⟨m, hm⟩ := maxLen_cell hsh
  have h3 : laidMet Tryd.prog (("internal/strconv.uint64pow10", Lib.tabData .u64 Lib.pow10Tab) :: [("unicode/utf8.acceptRanges", Rows.laid_unicode_utf8_acceptRanges), ("unicode/utf8.first", Rows.laid_unicode_utf8_first)]) W := h0.tail.tail
  have hT : Lib.TabIs Tryd.prog W "internal/strconv.uint64pow10" .u64 Lib.pow10Tab := Lib.tabIs_of_head (g := 0) (t := 82) (n := 20) (e := 47) (by kernel_rfl) (by kernel_rfl) Tryd.underlying82 Tryd.underlying47 (by kernel_rfl) (by kernel_rfl) h3
  refine ⟨⟨hT, trivial, trivial, m, hm⟩, fun g hg => ?_⟩
  have hc : g = 0 ∨ g = 1 := by simpa [glIds] using hg
  rcases hc with rfl | rfl
  · exact lt_var (P := Tryd.prog) (n := "internal/strconv.uint64pow10") (by kernel_rfl) hT
  · exact lt_cell hm
end
section
open Go.ChangeShapes Go.WideShapes Go.ChangeAt
theorem prog_laid : laidOutB Tryd.prog = true := by kernel_rfl
abbrev vCe (c : Ce) : List Value := [.bool c.nl, .int .i64 c.i, .string c.s]
theorem open_ce {H : Type} {enc : TypeId × Value → H} {W : World} {sp : Nat → Bool} {n : Nat} {cs : List Value} {x : DataW H × List MemPlace} (h : DataW.trod enc Tryd.prog W 0 sp true n 23 cs = some x) : ∃ c : Ce, cs = vCe c ∧ -9223372036854775808 ≤ c.i ∧ c.i ≤ 9223372036854775807 := by
  obtain ⟨xs, m, rfl, -, hcl, hxl, hf⟩ := DataW.trod_struct Tryd.underlying23 h
  have c62 : Tryd.prog.cellsOf 23 = 3 := by kernel_rfl
  have c2 : Tryd.prog.cellsOf 2 = 1 := by kernel_rfl
  have c9 : Tryd.prog.cellsOf 9 = 1 := by kernel_rfl
  have c4 : Tryd.prog.cellsOf 4 = 1 := by kernel_rfl
  rw [c62] at hcl
  match cs, hcl with
  | [a0, a1, a2], _ =>
  match xs, hxl with
  | [y0, y1, y2], _ =>
  have f0 : DataW.trod enc Tryd.prog W 0 sp true m 4 (List.take (Tryd.prog.cellsOf 4) (List.drop 0 [a0, a1, a2])) = some y0 := hf 0 _ rfl
  have f1 : DataW.trod enc Tryd.prog W 0 sp true m 2 (List.take (Tryd.prog.cellsOf 2) (List.drop 1 [a0, a1, a2])) = some y1 := hf 1 _ rfl
  have f2 : DataW.trod enc Tryd.prog W 0 sp true m 9 (List.take (Tryd.prog.cellsOf 9) (List.drop 2 [a0, a1, a2])) = some y2 := hf 2 _ rfl
  rw [c4] at f0
  rw [c2] at f1
  rw [c9] at f2
  obtain ⟨nl, e0, -⟩ := DataW.trod_bool (cs := [a0]) Tryd.underlying4 f0
  obtain ⟨i, e1, -, w1⟩ := DataW.trod_int (cs := [a1]) Tryd.underlying2 f1
  obtain ⟨s, e2, -, -⟩ := DataW.trod_string (cs := [a2]) Tryd.underlying9 f2
  injection e0 with e0; injection e1 with e1; injection e2 with e2
  subst e0 e1 e2
  exact ⟨⟨nl, i, s⟩, rfl, wf64 w1⟩
theorem RA_three {μ : List Nat} {ok : Nat → Prop} {w : World} (b : Bool) (i : Int) (s : ByteArray) : RA (RL μ ok w) (.agg [xB b, xI i, xS s]) (.agg #[.bool b, .int .i64 i, .string s]) := by
  refine ⟨_, rfl, rfl, fun j l hj => ?_⟩
  rcases j with _ | _ | _ | j
  all_goals first | (obtain rfl := Option.some.inj hj; exact ⟨_, rfl, rfl⟩) | cases hj
theorem predTexts_call (p : Pr) (hr : Rg p) (ty : Int) (c : Ce) (h0 : -9223372036854775808 ≤ c.i) (h1 : c.i ≤ 9223372036854775807) (u : Value) (w : World) (hs : Start w) (hg : ∀ g ∈ glIds, g < w.heap.size) (hR : RC (fun k => k < w.heap.size) w (.sl p.kids.length 9 (elemsOf (p.kids.map cPr))) u) : Calls Tryd.prog 3 #[.agg (vPr p u).toArray, .int .i64 ty, .agg (vCe c).toArray] w fun e w' => e = .returned (.bool true) ∧ Below w.heap.size w w' :=
  (c3 p hr ty c.nl c.i c.s h0 h1).told w _ hs hg rfl fun j a h => by
    rcases j with _ | _ | _ | j
    · obtain rfl := Option.some.inj h; exact ⟨_, rfl, RA_nine hR⟩
    · obtain rfl := Option.some.inj h; exact ⟨_, rfl, rfl⟩
    · obtain rfl := Option.some.inj h; exact ⟨_, rfl, RA_three _ _ _⟩
    · cases h
set_option maxRecDepth 100000 in
theorem predTexts_lifted (os : Os) (started : os.Started) (H : Type) (enc : TypeId × Value → H) :
    ReturnsInHanded {} Tryd.checked os 3 .any (fun w args => (Rows.predTextsSpec.pre enc Tryd.prog Tryd.f3 [] false w args ∧ laidMetH Tryd.prog laidP w) ∧ sizedMet enc Tryd.prog Tryd.f3 (OpenSpec.ofChange Rows.predTextsSpec) false w args)
      (Rows.predTextsSpec.post enc Tryd.prog Tryd.f3 false true false false) := by
  refine handed_both (C := Tryd.checked) (X := fun w _ => laidMetH Tryd.prog laidP w) (fun _ _ _ hh h => h.of_heap hh) own started (by kernel_rfl) Tryd.func3
    (ChangeSpec.witness_shaped (enc := enc) (C := Tryd.checked) (os := os) (X := fun w _ => laidMetH Tryd.prog laidP w) false (World.laidAll Tryd.prog os laidP) #[.agg #[.int .i64 0, .string ⟨#[]⟩, .int .i64 0, .bool false, .int .i64 0, .string ⟨#[]⟩, .int .i64 0, .string ⟨#[]⟩, .slice none 0 0], .int .i64 0, .agg #[.bool false, .int .i64 0, .string ⟨#[]⟩]] 8 (World.laidAll_os _ _ _)
      (World.shaped_of_ZipB (by kernel_rfl) (by kernel_rfl)) (by kernel_rfl) (by kernel_rfl) (by kernel_rfl)
      (by rw [MakeChecks.laidMetH_plain _ _ _ (by kernel_rfl)]; exact laidMet_laidAll _ (by kernel_rfl) (by kernel_rfl))) ?_
  intro W base args ds gs before hval0 hW hX hsh
  obtain ⟨hs, hg⟩ := startP hX hsh
  have hval : ∀ (j : Nat) t v, Tryd.f3.params[j]? = some t → args[j]? = some v → Value.okWide Tryd.prog W .any base t v := hval0
  have hW' := hW
  obtain ⟨p, q, hA0, hV, rfl, _, _⟩ := hW
  have hA : DataW.TrodAll enc Tryd.prog W 0 (fun _ => true) true Tryd.f3.params.toList args.toList ds p := hA0
  rw [Tryd.params3] at hA hval
  obtain ⟨v0, v1, v2, d0, d1, d2, p0, p1, p2, rfl, rfl, rfl, h0, h1, h2⟩ := trodAll_three hA
  obtain ⟨rfl, rfl⟩ := trodVars_none hV
  obtain ⟨cs0, rfl, _⟩ := okWide_struct Tryd.underlying26 (hval 0 26 v0 rfl rfl)
  obtain ⟨ty, rfl, rfl, rfl, wt⟩ := open_int Tryd.underlying3 (hval 1 3 v1 rfl rfl) h1
  obtain ⟨cs2, rfl, _⟩ := okWide_struct Tryd.underlying23 (hval 2 23 v2 rfl rfl)
  have lt0 : ∀ x ∈ p0, x.block < W.heap.size := by obtain ⟨m, hm⟩ := h0; exact DataW.trod_lt m _ _ _ hm
  have lt2 : ∀ x ∈ p2, x.block < W.heap.size := by obtain ⟨m, hm⟩ := h2; exact DataW.trod_lt m _ _ _ hm
  obtain ⟨pr, u0, e0, r0, hR0⟩ : ∃ (pr : Pr) (u : Value), cs0 = (vPr pr u).toArray ∧ RC (fun k => k < W.heap.size) W (.sl pr.kids.length 9 (elemsOf (pr.kids.map cPr))) u ∧ Rg pr := by
    obtain ⟨m, hm⟩ := h0
    obtain ⟨pr, u, hu, hr, hR⟩ := open_pr m m _ _ (Nat.le_refl _) hm
    refine ⟨pr, u, ?_, hr, hR⟩
    have h : cs0.toList = _ := hu
    cases cs0
    simp_all
  obtain ⟨c, e2, l0, l1⟩ : ∃ c : Ce, cs2 = (vCe c).toArray ∧ -9223372036854775808 ≤ c.i ∧ c.i ≤ 9223372036854775807 := by
    obtain ⟨m, hm⟩ := h2
    obtain ⟨c, hu, hr⟩ := open_ce hm
    refine ⟨c, ?_, hr⟩
    have h : cs2.toList = _ := hu
    cases cs2
    simp_all
  rw [e0] at h0 hW'
  rw [e2] at h2 hW'
  rw [e0, e2]
  simp only [List.append_nil] at hW'
  refine (predTexts_call pr hR0 ty c l0 l1 u0 W hs hg r0).mono fun e W' ⟨he, hb⟩ => ?_
  subst he
  have hb0 := Below.trod prog_laid (by kernel_rfl) (of_decide_eq_true (by kernel_rfl)) h0 hb lt0
  have hb2 := Below.trod prog_laid (by kernel_rfl) (of_decide_eq_true (by kernel_rfl)) h2 hb lt2
  exact ⟨_, rfl, _, _, _, [], _, [], hW', trodAll_mk1 (shut_bool Tryd.underlying4 _), trodAll_cons_mk hb0 (trodAll_cons_mk (shut_int Tryd.underlying3 wt) (trodAll_cons_mk hb2 trodAll_mk0)), rfl, hb.frame _, fun h => by cases h⟩
theorem predTexts_holds : Rows.PredTextsSaid :=
  OpenClaim.holds_of_wide 3 Tryd.f3 rfl rfl rfl rfl rfl rfl rfl ⟨rfl, rfl, rfl, rfl, rfl⟩ rfl rfl rfl rfl rfl (by kernel_rfl) Tryd.func3 (by kernel_rfl)
    (of_decide_eq_true (by kernel_rfl)) (by unfold Func.isWrapper; first | (rw [if_pos (by decide +kernel)]; kernel_rfl) | (rw [if_neg (by decide +kernel)]; exact ⟨rfl, rfl⟩))
    (fun os started H enc _ => predTexts_lifted os started H enc)
theorem predTexts_card : Rows.PredTextsCardSaid :=
  Claim7.holds_tied_plain_at .later [] [.data, .data, .data, .data, .pinned] true (true, "fbbb4bea0c165058b298b570714279520eda2454a3472321b952258c08cb220d") false predTexts_holds (fun _ h => by cases h) (by kernel_rfl) (fun _ h => by cases h) predTexts_row_tie rfl ⟨rfl, rfl⟩ (by kernel_rfl) rfl
    (fun f fn hf hfn => by
      obtain rfl : f = 3 := Option.some.inj ((show Tryd.prog.funcNamed "firkin/firkinlaw17.PredTexts" = some 3 by kernel_rfl).symm.trans hf) |>.symm
      obtain rfl : fn = Tryd.f3 := (Option.some.inj (Tryd.func3.symm.trans hfn)).symm
      exact ⟨by kernel_rfl, fun j t ht => by
        rw [Tryd.params3] at ht
        have hm : t ∈ [26, 3, 23] := by simpa using Array.mem_of_getElem? ht
        have hall : ([26, 3, 23].all fun u => !Tryd.prog.wantsStandIn u) = true := by kernel_rfl
        exact (show Tryd.prog.wantsStandIn t = false by simpa using List.all_eq_true.1 hall t hm)⟩)
    (by kernel_rfl)
end
end Go.Proofs.YtcbfkokdkadalaaDoor.V
