/- Proved: the tied card of firkinlaw18.QueryOne: for every two queries the law returns true, and its inputs read as they did. Conditions: those of the given card (the listed variables of the library read as the program's text lays them), no others. -/
import Derived.Test.YthinpbnnpelhhaaGreatDoorJ1
import Derived.Test.YthinpbnnpelhhaaGreatDoorB9
import Derived.Test.YthinpbnnpelhhaaGreatDoorB2
import Derived.ChangeArms
import Derived.Test.YthinpbnnpelhhaaGreatDoorB10
import Derived.Test.YthinpbnnpelhhaaGreatDoorB8
import Derived.WalkKit
import Derived.BigCall
import Derived.Laws.ResultCell
import Derived.Laws.Rows
import Derived.Laws.Tables
import Derived.Laws.AppendOwn
import Derived.ChangeSlices
import Derived.Test.YthinpbnnpelhhaaGreatDoorV22
import Derived.Test.YthinpbnnpelhhaaGreatDoorTie
import Derived.Test.YthinpbnnpelhhaaGreatDoorCards
import Derived.ProofKit
import Derived.Handy
import Derived.Lay
import Derived.SevenTiedAt
import Derived.Stop.LaidErr
import Derived.Lib.LaidTab
import Derived.Lib.ItoaNum
import Derived.Shelf.Vars
import Derived.Handed
import Derived.ChangeMaps5
import Derived.OpenShut
import Derived.ShutString
import Derived.ChangeOld
import Derived.Carry
namespace Go.Proofs.YthinpbnnpelhhaaGreatDoor.V
open Go Go.RowKit Go.Proofs.YthinpbnnpelhhaaGreatDoorW.PrintLast
open Go.Proofs
set_option linter.unusedVariables false
set_option linter.unusedSimpArgs false
attribute [local irreducible] awp
section
set_option maxRecDepth 100000
/-! The columns in a predicate: how the program goes through it. -/
abbrev vN : B := .var [.c (.v (.slice none 0 0))] 22
abbrev vO (j n : Nat) : B := .var [.own j 1 0 n] 22
abbrev arS (l : List ByteArray) : B := .arr (l.map fun x => lc (cSt x)) 1 9
theorem deps_kid {l : List Pr} {d : Nat} (h : deps l ≤ d) : ∀ x ∈ l, x.dep ≤ d := by
  induction l with
  | nil => intro x hx; cases hx
  | cons a r ih =>
    intro x hx
    simp only [deps] at h
    rcases List.mem_cons.1 hx with rfl | hx
    · omega
    · exact ih (by omega) x hx
end
section
set_option maxRecDepth 100000
/-! What a query asks for, in words. -/
theorem told_ba (a : Ae) (w : List UInt8) (x : ByteArray) (h : 2 ≤ a.op ∧ a.op ≤ 5) (hw : toldW a.op = w) (hx : x = ofL w) : x ++ a.col ++ ⟨#[41]⟩ = ofL (toldL a) := by
  subst hx
  unfold toldL
  rw [if_pos h, hw]
  apply ba_ext
  simp [bsL, ByteArray.data_append]
theorem told_no (a : Ae) (h : ¬ (2 ≤ a.op ∧ a.op ≤ 5)) : ofL (toldL a) = ⟨#[99, 111, 117, 110, 116, 40, 42, 41]⟩ := by
  unfold toldL
  rw [if_neg h]
theorem told_len (a : Ae) (h : a.col.size ≤ 100) : (toldL a).length ≤ 105 := by
  have h2 := len_bsL a.col
  have h1 : (toldW a.op).length ≤ 4 := by
    unfold toldW
    repeat' split
    all_goals simp
  unfold toldL
  split
  · simp only [List.length_append, List.length_cons, List.length_nil]
    omega
  · simp
theorem c34 (a : Ae) (hc : a.col.size ≤ 1000) : PC Tryz.prog 34 [aAe a] [] (fun r bx => r = A.str (ofL (toldL a)) ∧ bx = []) := by
  have z1 : (#[104, 97, 115, 40] : Array UInt8).size = 4 := rfl
  have z2 : (#[115, 117, 109, 40] : Array UInt8).size = 4 := rfl
  have z3 : (#[109, 105, 110, 40] : Array UInt8).size = 4 := rfl
  have z4 : (#[109, 97, 120, 40] : Array UInt8).size = 4 := rfl
  have z5 : (#[41] : Array UInt8).size = 1 := rfl
  refine enter (rs := [.tmp 2]) mx Tryz.func34 Tryz.ntmps34 fun Q0 hQ0 => ?_
  refine sq fun _ _ => ?_
  refine rg (sg ?_)
  refine nx ?_
  refine sq fun _ _ => ?_
  refine sq fun _ _ => ?_
  refine rg (sg ?_)
  refine nx ?_
  refine bl ?_
  refine sq fun _ _ => ?_
  refine rg (sg ?_)
  refine nx ?_
  refine cb (fun g2 => ?_) (fun g2 => ?_)
  · refine sq fun _ _ => ?_
    refine rg (sg ?_)
    refine And.intro (by first | assumption | omega | rfl | trivial) ?_
    refine And.intro (by first | assumption | omega | rfl | trivial) ?_
    refine nx ?_
    refine rt (sg ?_)
    refine f1 (g := sg ?_)
    exact ax [] ⟨congrArg A.str (told_ba a [104, 97, 115, 40] _ (by omega) (by rw [g2]; rfl) rfl), rfl⟩
  · refine sq fun _ _ => ?_
    refine rg (sg ?_)
    refine nx ?_
    refine cb (fun g3 => ?_) (fun g3 => ?_)
    · refine sq fun _ _ => ?_
      refine rg (sg ?_)
      refine And.intro (by first | assumption | omega | rfl | trivial) ?_
      refine And.intro (by first | assumption | omega | rfl | trivial) ?_
      refine nx ?_
      refine rt (sg ?_)
      refine f1 (g := sg ?_)
      exact ax [] ⟨congrArg A.str (told_ba a [115, 117, 109, 40] _ (by omega) (by rw [g3]; rfl) rfl), rfl⟩
    · refine sq fun _ _ => ?_
      refine rg (sg ?_)
      refine nx ?_
      refine cb (fun g4 => ?_) (fun g4 => ?_)
      · refine sq fun _ _ => ?_
        refine rg (sg ?_)
        refine And.intro (by first | assumption | omega | rfl | trivial) ?_
        refine And.intro (by first | assumption | omega | rfl | trivial) ?_
        refine nx ?_
        refine rt (sg ?_)
        refine f1 (g := sg ?_)
        exact ax [] ⟨congrArg A.str (told_ba a [109, 105, 110, 40] _ (by omega) (by rw [g4]; rfl) rfl), rfl⟩
      · refine sq fun _ _ => ?_
        refine rg (sg ?_)
        refine nx ?_
        refine cb (fun g5 => ?_) (fun g5 => ?_)
        · refine sq fun _ _ => ?_
          refine rg (sg ?_)
          refine And.intro (by first | assumption | omega | rfl | trivial) ?_
          refine And.intro (by first | assumption | omega | rfl | trivial) ?_
          refine nx ?_
          refine rt (sg ?_)
          refine f1 (g := sg ?_)
          exact ax [] ⟨congrArg A.str (told_ba a [109, 97, 120, 40] _ (by omega) (by rw [g5]; rfl) rfl), rfl⟩
        · refine sk (sg ?_)
          refine nx ?_
          refine sq fun _ _ => ?_
          refine rg (sg ?_)
          refine nx ?_
          refine rt ?_
          refine f1 (g := sg ?_)
          exact ax [] ⟨congrArg A.str (told_no a (by omega)).symm, rfl⟩
/-- What is asked for, as far as some aggregate. -/
def askP (q : Qu) (i : Nat) : List ByteArray := q.cols ++ (q.aggs.take i).map fun a => ofL (toldL a)
theorem askP_0 (q : Qu) : askP q 0 = q.cols := by simp [askP]
theorem askP_succ (q : Qu) (i : Nat) (h : i < q.aggs.length) : askP q (i + 1) = askP q i ++ [ofL (toldL q.aggs[i])] := by
  unfold askP
  rw [List.take_add_one, List.getElem?_eq_getElem h, List.map_append, List.append_assoc]
  rfl
theorem askP_len (q : Qu) (hq : SmQ q) (i : Nat) : (askP q i).length ≤ 30 := by
  have h1 := hq.cols
  have h2 := hq.aggs
  simp only [askP, List.length_append, List.length_map, List.length_take]
  omega
def askB (q : Qu) : List ByteArray := askP q q.aggs.length
theorem askB_bs (q : Qu) : (askB q).map bsL = askL q := by
  unfold askB askP askL
  rw [List.take_length, List.map_append, List.map_map]
  rfl
theorem c14o (q : Qu) (hq : SmQ q) : PC Tryz.prog 14 [aQu q] [] (fun r bx => (askB q = [] ∧ r = .one (.c (.v (.slice none 0 0))) ∧ bx = []) ∨ (r = xOwn 0 1 0 (askB q).length ∧ bx = [.arr ((askB q).map fun x => lc (cSt x)) 1 9])) := by
  have hcl : q.cols.length ≤ 1000 := Nat.le_trans hq.cols (by omega)
  have hal : q.aggs.length ≤ 1000 := Nat.le_trans hq.aggs (by omega)
  refine enter (rs := [.tmp 2]) mx Tryz.func14 Tryz.ntmps14 fun Q0 hQ0 => ?_
  refine sq fun _ _ => ?_
  refine rg (sg ?_)
  refine nx ?_
  refine sq fun _ _ => ?_
  refine rg (sg ?_)
  refine cl [] (sg ?_)
  refine (c33o q.cols hcl).mono ?_
  rintro r bx (⟨hz, rfl, rfl⟩ | ⟨rfl, rfl⟩)
  · refine sg ?_
    refine nx ?_
    refine sq fun _ _ => ?_
    refine sq fun _ _ => ?_
    refine rg (sg ?_)
    refine nx ?_
    refine bl ?_
    refine lp [3, 10, 11, 12] [] (fun k σ => ∃ (i : Nat) (r0 : A) (X : List B), k = q.aggs.length - i ∧ i ≤ q.aggs.length ∧ ((askP q i = [] ∧ r0 = .one (.c (.v (.slice none 0 0))) ∧ X = []) ∨ (r0 = xOwn 0 1 0 (askP q i).length ∧ X = [arS (askP q i)])) ∧ σ = ⟨23, 0, [(3, r0), (10, xRow q.aggs.length 2 (elemsOf (List.map cAe q.aggs))), (11, A.int .i64 q.aggs.length), (12, A.int .i64 i)], X⟩) q.aggs.length ?_ ?_
    · refine ⟨0, _, _, by omega, by omega, .inl ⟨(by rw [askP_0]; exact hz), rfl, rfl⟩, ?_⟩
      simp only [go_sem, Nat.reduceAdd, Nat.reduceSub, Nat.reduceMul, Nat.reduceLT, Nat.reduceLeDiff, Nat.reduceEqDiff, reduceIte, reduceCtorEq, if_true, if_false, Int.reduceEq, Int.reduceLT, Int.reduceLE, Int.reduceAdd, Int.reduceSub, Int.reduceMul, Int.reduceNeg, Int.reduceToNat, decide_true, decide_false, Nat.reduceBEq, St.ids, upto, arr_sub, askP_0]
    · rintro k σ' ⟨i, r0, X, hk, hi, hX, rfl⟩ Q1 hQ1
      refine sq fun _ _ => ?_
      refine rg (sg ?_)
      refine nx ?_
      refine sq fun _ _ => ?_
      refine cb (fun h => ?_) (fun h => ?_)
      · have hin : i < q.aggs.length := by omega
        have hwi : IntKind.i64.wrap ((i : Int) + 1) = ((i + 1 : Nat) : Int) := wrap_succ (by omega)
        have hee := el_at (f := cAe) hin
        have hsz : q.aggs[i].col.size ≤ 1000 := Nat.le_trans (hq.agg _ (List.getElem_mem hin)) (by omega)
        have hap := askP_succ q i hin
        have hal := askP_len q hq i
        have hE : ∀ l : List ByteArray, List.map (fun x => lc (cSt x)) l ++ [[xS (ofL (toldL q.aggs[i]))]] = List.map (fun x => lc (cSt x)) (l ++ [ofL (toldL q.aggs[i])]) := fun l => by simp [lc, cSt]
        rcases hX with ⟨h0, rfl, rfl⟩ | ⟨rfl, rfl⟩
        · refine sk (sg ?_)
          refine nx ?_
          refine sq fun _ _ => ?_
          refine bl ?_
          refine sq fun _ _ => ?_
          refine rg (sg ?_)
          refine and_assoc.2 ?_
          refine And.intro (by first | assumption | omega | rfl | trivial) ?_
          refine And.intro (by first | assumption | omega | rfl | trivial) ?_
          simp (disch := omega) only [el_at]
          refine sg ?_
          refine nx ?_
          refine rg (sg ?_)
          refine cl [] (sg ?_)
          refine (c34 _ (by first | assumption | omega | trivial | rfl)).mono ?_
          rintro r bx ⟨rfl, rfl⟩
          refine sg ?_
          refine nx ?_
          refine rg (sg ?_)
          simp (disch := omega) only [wrap_succ]
          refine ln (q.aggs.length - (i + 1)) [2] ?_ ?_
          · omega
          rw [h0, List.nil_append] at hap
          refine ⟨i + 1, _, _, rfl, by omega, .inr ⟨rfl, rfl⟩, ?_⟩
          simp only [go_sem, Nat.reduceAdd, Nat.reduceSub, Nat.reduceMul, Nat.reduceLT, Nat.reduceLeDiff, Nat.reduceEqDiff, reduceIte, reduceCtorEq, if_true, if_false, Int.reduceEq, Int.reduceLT, Int.reduceLE, Int.reduceAdd, Int.reduceSub, Int.reduceMul, Int.reduceNeg, Int.reduceToNat, decide_true, decide_false, Nat.reduceBEq, St.ids, upto, arr_sub, hwi, hap, lc_sub, arS, List.map_cons, List.map_nil, List.length_cons, List.length_nil]
          all_goals rfl
        · refine sk (sg ?_)
          refine nx ?_
          refine sq fun _ _ => ?_
          refine bl ?_
          refine sq fun _ _ => ?_
          refine rg (sg ?_)
          refine and_assoc.2 ?_
          refine And.intro (by first | assumption | omega | rfl | trivial) ?_
          refine And.intro (by first | assumption | omega | rfl | trivial) ?_
          simp (disch := omega) only [el_at]
          refine sg ?_
          refine nx ?_
          refine rg (sg ?_)
          refine cl [] (sg ?_)
          refine (c34 _ (by first | assumption | omega | trivial | rfl)).mono ?_
          rintro r bx ⟨rfl, rfl⟩
          refine sg ?_
          refine And.intro (by first | assumption | omega | rfl | trivial) ?_
          refine And.intro (by simp only [maxLen]; omega) ?_
          refine nx ?_
          refine rg (sg ?_)
          simp (disch := omega) only [wrap_succ]
          refine ln (q.aggs.length - (i + 1)) [3] ?_ ?_
          · omega
          refine ⟨i + 1, _, _, rfl, by omega, .inr ⟨rfl, rfl⟩, ?_⟩
          simp only [go_sem, Nat.reduceAdd, Nat.reduceSub, Nat.reduceMul, Nat.reduceLT, Nat.reduceLeDiff, Nat.reduceEqDiff, reduceIte, reduceCtorEq, if_true, if_false, Int.reduceEq, Int.reduceLT, Int.reduceLE, Int.reduceAdd, Int.reduceSub, Int.reduceMul, Int.reduceNeg, Int.reduceToNat, decide_true, decide_false, Nat.reduceBEq, St.ids, upto, arr_sub, hwi, hap, hE, lc_sub, arS, List.map_append, List.map_cons, List.map_nil, List.length_append, List.length_cons, List.length_nil]
          all_goals rfl
      · have hie : i = q.aggs.length := by omega
        subst hie
        rcases hX with ⟨h0, rfl, rfl⟩ | ⟨rfl, rfl⟩
        · refine xt (sg ?_)
          refine lx (g := sg ?_)
          refine nx ?_
          refine sq fun _ _ => ?_
          refine rg (sg ?_)
          refine nx ?_
          refine rt ?_
          refine f1 (g := sg ?_)
          exact ax [] (.inl ⟨h0, rfl, rfl⟩)
        · refine xt (sg ?_)
          refine lx (g := sg ?_)
          refine nx ?_
          refine sq fun _ _ => ?_
          refine rg (sg ?_)
          refine nx ?_
          refine rt ?_
          refine f1 (g := sg ?_)
          refine ax [0] (.inr ⟨?_, ?_⟩)
          · simp only [go_sem, Nat.reduceAdd, Nat.reduceSub, Nat.reduceMul, Nat.reduceLT, Nat.reduceLeDiff, Nat.reduceEqDiff, reduceIte, reduceCtorEq, if_true, if_false, Int.reduceEq, Int.reduceLT, Int.reduceLE, Int.reduceAdd, Int.reduceSub, Int.reduceMul, Int.reduceNeg, Int.reduceToNat, decide_true, decide_false, Nat.reduceBEq, St.ids, upto, askB]
          · simp only [go_sem, Nat.reduceAdd, Nat.reduceSub, Nat.reduceMul, Nat.reduceLT, Nat.reduceLeDiff, Nat.reduceEqDiff, reduceIte, reduceCtorEq, if_true, if_false, Int.reduceEq, Int.reduceLT, Int.reduceLE, Int.reduceAdd, Int.reduceSub, Int.reduceMul, Int.reduceNeg, Int.reduceToNat, decide_true, decide_false, Nat.reduceBEq, St.ids, upto, arr_sub, askB]
  · refine sg ?_
    refine nx ?_
    refine sq fun _ _ => ?_
    refine sq fun _ _ => ?_
    refine rg (sg ?_)
    refine nx ?_
    refine bl ?_
    refine lp [3, 10, 11, 12] [1] (fun k σ => ∃ (i : Nat) (r0 : A) (X : List B), k = q.aggs.length - i ∧ i ≤ q.aggs.length ∧ ((askP q i = [] ∧ r0 = .one (.c (.v (.slice none 0 0))) ∧ X = []) ∨ (r0 = xOwn 0 1 0 (askP q i).length ∧ X = [arS (askP q i)])) ∧ σ = ⟨23, 0, [(3, r0), (10, xRow q.aggs.length 2 (elemsOf (List.map cAe q.aggs))), (11, A.int .i64 q.aggs.length), (12, A.int .i64 i)], X⟩) q.aggs.length ?_ ?_
    · refine ⟨0, _, _, by omega, by omega, .inr ⟨rfl, rfl⟩, ?_⟩
      simp only [go_sem, Nat.reduceAdd, Nat.reduceSub, Nat.reduceMul, Nat.reduceLT, Nat.reduceLeDiff, Nat.reduceEqDiff, reduceIte, reduceCtorEq, if_true, if_false, Int.reduceEq, Int.reduceLT, Int.reduceLE, Int.reduceAdd, Int.reduceSub, Int.reduceMul, Int.reduceNeg, Int.reduceToNat, decide_true, decide_false, Nat.reduceBEq, St.ids, upto, arr_sub, askP_0]
    · rintro k σ' ⟨i, r0, X, hk, hi, hX, rfl⟩ Q1 hQ1
      refine sq fun _ _ => ?_
      refine rg (sg ?_)
      refine nx ?_
      refine sq fun _ _ => ?_
      refine cb (fun h => ?_) (fun h => ?_)
      · have hin : i < q.aggs.length := by omega
        have hwi : IntKind.i64.wrap ((i : Int) + 1) = ((i + 1 : Nat) : Int) := wrap_succ (by omega)
        have hee := el_at (f := cAe) hin
        have hsz : q.aggs[i].col.size ≤ 1000 := Nat.le_trans (hq.agg _ (List.getElem_mem hin)) (by omega)
        have hap := askP_succ q i hin
        have hal := askP_len q hq i
        have hE : ∀ l : List ByteArray, List.map (fun x => lc (cSt x)) l ++ [[xS (ofL (toldL q.aggs[i]))]] = List.map (fun x => lc (cSt x)) (l ++ [ofL (toldL q.aggs[i])]) := fun l => by simp [lc, cSt]
        rcases hX with ⟨h0, rfl, rfl⟩ | ⟨rfl, rfl⟩
        · refine sk (sg ?_)
          refine nx ?_
          refine sq fun _ _ => ?_
          refine bl ?_
          refine sq fun _ _ => ?_
          refine rg (sg ?_)
          refine and_assoc.2 ?_
          refine And.intro (by first | assumption | omega | rfl | trivial) ?_
          refine And.intro (by first | assumption | omega | rfl | trivial) ?_
          simp (disch := omega) only [el_at]
          refine sg ?_
          refine nx ?_
          refine rg (sg ?_)
          refine cl [] (sg ?_)
          refine (c34 _ (by first | assumption | omega | trivial | rfl)).mono ?_
          rintro r bx ⟨rfl, rfl⟩
          refine sg ?_
          refine nx ?_
          refine rg (sg ?_)
          simp (disch := omega) only [wrap_succ]
          refine ln (q.aggs.length - (i + 1)) [2] ?_ ?_
          · omega
          rw [h0, List.nil_append] at hap
          refine ⟨i + 1, _, _, rfl, by omega, .inr ⟨rfl, rfl⟩, ?_⟩
          simp only [go_sem, Nat.reduceAdd, Nat.reduceSub, Nat.reduceMul, Nat.reduceLT, Nat.reduceLeDiff, Nat.reduceEqDiff, reduceIte, reduceCtorEq, if_true, if_false, Int.reduceEq, Int.reduceLT, Int.reduceLE, Int.reduceAdd, Int.reduceSub, Int.reduceMul, Int.reduceNeg, Int.reduceToNat, decide_true, decide_false, Nat.reduceBEq, St.ids, upto, arr_sub, hwi, hap, lc_sub, arS, List.map_cons, List.map_nil, List.length_cons, List.length_nil]
          all_goals rfl
        · refine sk (sg ?_)
          refine nx ?_
          refine sq fun _ _ => ?_
          refine bl ?_
          refine sq fun _ _ => ?_
          refine rg (sg ?_)
          refine and_assoc.2 ?_
          refine And.intro (by first | assumption | omega | rfl | trivial) ?_
          refine And.intro (by first | assumption | omega | rfl | trivial) ?_
          simp (disch := omega) only [el_at]
          refine sg ?_
          refine nx ?_
          refine rg (sg ?_)
          refine cl [] (sg ?_)
          refine (c34 _ (by first | assumption | omega | trivial | rfl)).mono ?_
          rintro r bx ⟨rfl, rfl⟩
          refine sg ?_
          refine And.intro (by first | assumption | omega | rfl | trivial) ?_
          refine And.intro (by simp only [maxLen]; omega) ?_
          refine nx ?_
          refine rg (sg ?_)
          simp (disch := omega) only [wrap_succ]
          refine ln (q.aggs.length - (i + 1)) [3] ?_ ?_
          · omega
          refine ⟨i + 1, _, _, rfl, by omega, .inr ⟨rfl, rfl⟩, ?_⟩
          simp only [go_sem, Nat.reduceAdd, Nat.reduceSub, Nat.reduceMul, Nat.reduceLT, Nat.reduceLeDiff, Nat.reduceEqDiff, reduceIte, reduceCtorEq, if_true, if_false, Int.reduceEq, Int.reduceLT, Int.reduceLE, Int.reduceAdd, Int.reduceSub, Int.reduceMul, Int.reduceNeg, Int.reduceToNat, decide_true, decide_false, Nat.reduceBEq, St.ids, upto, arr_sub, hwi, hap, hE, lc_sub, arS, List.map_append, List.map_cons, List.map_nil, List.length_append, List.length_cons, List.length_nil]
          all_goals rfl
      · have hie : i = q.aggs.length := by omega
        subst hie
        rcases hX with ⟨h0, rfl, rfl⟩ | ⟨rfl, rfl⟩
        · refine xt (sg ?_)
          refine lx (g := sg ?_)
          refine nx ?_
          refine sq fun _ _ => ?_
          refine rg (sg ?_)
          refine nx ?_
          refine rt ?_
          refine f1 (g := sg ?_)
          exact ax [] (.inl ⟨h0, rfl, rfl⟩)
        · refine xt (sg ?_)
          refine lx (g := sg ?_)
          refine nx ?_
          refine sq fun _ _ => ?_
          refine rg (sg ?_)
          refine nx ?_
          refine rt ?_
          refine f1 (g := sg ?_)
          refine ax [0] (.inr ⟨?_, ?_⟩)
          · simp only [go_sem, Nat.reduceAdd, Nat.reduceSub, Nat.reduceMul, Nat.reduceLT, Nat.reduceLeDiff, Nat.reduceEqDiff, reduceIte, reduceCtorEq, if_true, if_false, Int.reduceEq, Int.reduceLT, Int.reduceLE, Int.reduceAdd, Int.reduceSub, Int.reduceMul, Int.reduceNeg, Int.reduceToNat, decide_true, decide_false, Nat.reduceBEq, St.ids, upto, askB]
          · simp only [go_sem, Nat.reduceAdd, Nat.reduceSub, Nat.reduceMul, Nat.reduceLT, Nat.reduceLeDiff, Nat.reduceEqDiff, reduceIte, reduceCtorEq, if_true, if_false, Int.reduceEq, Int.reduceLT, Int.reduceLE, Int.reduceAdd, Int.reduceSub, Int.reduceMul, Int.reduceNeg, Int.reduceToNat, decide_true, decide_false, Nat.reduceBEq, St.ids, upto, arr_sub, askB]
end
section
set_option maxRecDepth 100000
/-! A predicate that came in: what its cells hold is a predicate's content. -/
theorem choose_list {α : Type} {Q : Nat → α → Prop} : ∀ (n : Nat), (∀ i, i < n → ∃ x, Q i x) → ∃ l : List α, l.length = n ∧ ∀ (i : Nat) (h : i < l.length), Q i l[i]
  | 0, _ => ⟨[], rfl, fun i h => absurd h (Nat.not_lt_zero _)⟩
  | n + 1, h => by
    obtain ⟨l, h1, h2⟩ := choose_list n fun i hi => h i (by omega)
    obtain ⟨x, hx⟩ := h n (by omega)
    refine ⟨l ++ [x], by simp [h1], fun i hi => ?_⟩
    by_cases hil : i < l.length
    · rw [List.getElem_append_left hil]
      exact h2 i hil
    · have hie : i = l.length := by simp at hi; omega
      subst hie
      simp [h1, hx]
theorem cells9 {w : World} {a : Addr} {cs : List Value} (h : w.cells? 0 a 9 = some cs) : cs.length = 9 ∧ ∀ j, j < 9 → w.cell? (a.add j) = cs[j]? := by
  unfold World.cells? at h
  rw [if_pos (Nat.zero_le _)] at h
  simp only [show List.range 9 = [0, 1, 2, 3, 4, 5, 6, 7, 8] from rfl, List.mapM_cons, List.mapM_nil, Option.bind_eq_bind, Option.pure_def, Option.bind_eq_some_iff, Option.some.injEq] at h
  obtain ⟨x0, e0, l0, ⟨x1, e1, l1, ⟨x2, e2, l2, ⟨x3, e3, l3, ⟨x4, e4, l4, ⟨x5, e5, l5, ⟨x6, e6, l6, ⟨x7, e7, l7, ⟨x8, e8, l8, rfl, rfl⟩, rfl⟩, rfl⟩, rfl⟩, rfl⟩, rfl⟩, rfl⟩, rfl⟩, rfl⟩ := h
  refine ⟨rfl, fun j hj => ?_⟩
  match j, hj with
  | 0, _ => exact e0
  | 1, _ => exact e1
  | 2, _ => exact e2
  | 3, _ => exact e3
  | 4, _ => exact e4
  | 5, _ => exact e5
  | 6, _ => exact e6
  | 7, _ => exact e7
  | 8, _ => exact e8
theorem cell_lt {w : World} {a : Addr} {v : Value} (h : w.cell? a = some v) : a.block < w.heap.size := by
  rcases Nat.lt_or_ge a.block w.heap.size with h' | h'
  · exact h'
  · simp [World.cell?, Array.getElem?_eq_none h'] at h
theorem wf64 {n : Int} (h : (Lit.int .i64 n).wf = true) : -9223372036854775808 ≤ n ∧ n ≤ 9223372036854775807 := by
  simp only [Lit.wf, IntKind.min, IntKind.max, IntKind.signed, IntKind.bits] at h
  simp at h
  omega
abbrev vPr (p : Pr) (u : Value) : List Value := [.int .i64 p.op, .string p.col, .int .i64 p.cmp, .bool p.val.nl, .int .i64 p.val.i, .string p.val.s, .int .i64 p.kind, .string p.pat, u]
theorem open_pr {H : Type} {enc : TypeId × Value → H} {W : World} {sp : Nat → Bool} : ∀ (N n : Nat) (cs : List Value) (x : DataW H × List MemPlace), n ≤ N → DataW.trod enc Tryz.prog W 0 sp true n 27 cs = some x →
    ∃ (p : Pr) (u : Value), cs = vPr p u ∧ RC (fun k => k < W.heap.size) W (.sl p.kids.length 9 (elemsOf (p.kids.map cPr))) u ∧ Rg p := by
  intro N
  induction N with
  | zero =>
    intro n cs x hn h
    obtain rfl : n = 0 := by omega
    simp [DataW.trod] at h
  | succ N ih =>
    intro n cs x hn h
    obtain ⟨xs, m, rfl, -, hcl, hxl, hf⟩ := DataW.trod_struct Tryz.underlying27 h
    have c35 : Tryz.prog.cellsOf 27 = 9 := by kernel_rfl
    have c32 : Tryz.prog.cellsOf 24 = 3 := by kernel_rfl
    have c33 : Tryz.prog.cellsOf 25 = 1 := by kernel_rfl
    have c3 : Tryz.prog.cellsOf 3 = 1 := by kernel_rfl
    have c9 : Tryz.prog.cellsOf 9 = 1 := by kernel_rfl
    have c2 : Tryz.prog.cellsOf 2 = 1 := by kernel_rfl
    have c4 : Tryz.prog.cellsOf 4 = 1 := by kernel_rfl
    rw [c35] at hcl
    match cs, hcl with
    | [a0, a1, a2, a3, a4, a5, a6, a7, a8], _ =>
    match xs, hxl with
    | [y0, y1, y2, y3, y4, y5, y6], _ =>
    have f0 : DataW.trod enc Tryz.prog W 0 sp true m 3 (List.take (Tryz.prog.cellsOf 3) (List.drop 0 [a0, a1, a2, a3, a4, a5, a6, a7, a8])) = some y0 := hf 0 _ rfl
    rw [c3] at f0
    have f1 : DataW.trod enc Tryz.prog W 0 sp true m 9 (List.take (Tryz.prog.cellsOf 9) (List.drop 1 [a0, a1, a2, a3, a4, a5, a6, a7, a8])) = some y1 := hf 1 _ rfl
    rw [c9] at f1
    have f2 : DataW.trod enc Tryz.prog W 0 sp true m 3 (List.take (Tryz.prog.cellsOf 3) (List.drop 2 [a0, a1, a2, a3, a4, a5, a6, a7, a8])) = some y2 := hf 2 _ rfl
    rw [c3] at f2
    have f3 : DataW.trod enc Tryz.prog W 0 sp true m 24 (List.take (Tryz.prog.cellsOf 24) (List.drop 3 [a0, a1, a2, a3, a4, a5, a6, a7, a8])) = some y3 := hf 3 _ rfl
    rw [c32] at f3
    have f4 : DataW.trod enc Tryz.prog W 0 sp true m 3 (List.take (Tryz.prog.cellsOf 3) (List.drop 6 [a0, a1, a2, a3, a4, a5, a6, a7, a8])) = some y4 := hf 4 _ rfl
    rw [c3] at f4
    have f5 : DataW.trod enc Tryz.prog W 0 sp true m 9 (List.take (Tryz.prog.cellsOf 9) (List.drop 7 [a0, a1, a2, a3, a4, a5, a6, a7, a8])) = some y5 := hf 5 _ rfl
    rw [c9] at f5
    have f6 : DataW.trod enc Tryz.prog W 0 sp true m 25 (List.take (Tryz.prog.cellsOf 25) (List.drop 8 [a0, a1, a2, a3, a4, a5, a6, a7, a8])) = some y6 := hf 6 _ rfl
    rw [c33] at f6
    clear hf h
    obtain ⟨o, e0, -, -⟩ := DataW.trod_int (cs := [a0]) Tryz.underlying3 f0
    obtain ⟨col, e1, -, -⟩ := DataW.trod_string (cs := [a1]) Tryz.underlying9 f1
    obtain ⟨cm, e2, -, -⟩ := DataW.trod_int (cs := [a2]) Tryz.underlying3 f2
    obtain ⟨kd, e4, -, -⟩ := DataW.trod_int (cs := [a6]) Tryz.underlying3 f4
    obtain ⟨pt, e5, -, -⟩ := DataW.trod_string (cs := [a7]) Tryz.underlying9 f5
    obtain ⟨zs, q, rfl, -, -, hzl, hz⟩ := DataW.trod_struct (cs := [a3, a4, a5]) Tryz.underlying24 f3
    match zs, hzl with
    | [z0, z1, z2], _ =>
    have g0 : DataW.trod enc Tryz.prog W 0 sp true q 4 (List.take (Tryz.prog.cellsOf 4) (List.drop 0 [a3, a4, a5])) = some z0 := hz 0 _ rfl
    have g1 : DataW.trod enc Tryz.prog W 0 sp true q 2 (List.take (Tryz.prog.cellsOf 2) (List.drop 1 [a3, a4, a5])) = some z1 := hz 1 _ rfl
    have g2 : DataW.trod enc Tryz.prog W 0 sp true q 9 (List.take (Tryz.prog.cellsOf 9) (List.drop 2 [a3, a4, a5])) = some z2 := hz 2 _ rfl
    rw [c4] at g0
    rw [c2] at g1
    rw [c9] at g2
    clear hz
    obtain ⟨vn, e30, -⟩ := DataW.trod_bool (cs := [a3]) Tryz.underlying4 g0
    obtain ⟨vi, e31, -, hvi⟩ := DataW.trod_int (cs := [a4]) Tryz.underlying2 g1
    obtain ⟨vs, e32, -, -⟩ := DataW.trod_string (cs := [a5]) Tryz.underlying9 g2
    obtain ⟨hv0, hv1⟩ := wf64 hvi
    injection e0 with e0; injection e1 with e1; injection e2 with e2; injection e4 with e4; injection e5 with e5; injection e30 with e30; injection e31 with e31; injection e32 with e32
    subst e0 e1 e2 e4 e5 e30 e31 e32
    rcases DataW.trod_slice (cs := [a8]) Tryz.underlying25 f6 with ⟨e6, -⟩ | ⟨a, len, cap, elems, rest, r, hr, e6, -, -, hlc, hcm, hel, helem, -, -⟩
    · injection e6 with e6
      subst e6
      refine ⟨.mk o col cm ⟨vn, vi, vs⟩ kd pt [], _, rfl, ⟨none, 0, rfl, ⟨Nat.le_refl _, Nat.zero_le _⟩, fun i hi => absurd hi (Nat.not_lt_zero _)⟩, .mk _ hv0 hv1 fun x hx => (nomatch hx)⟩
    · injection e6 with e6
      subst e6
      rw [c35] at helem
      obtain ⟨l, hl, hQ⟩ := choose_list (Q := fun i (p : Pr) => ∃ (u : Value), W.cells? 0 (a.add (i * 9)) 9 = some (vPr p u) ∧ RC (fun k => k < W.heap.size) W (.sl p.kids.length 9 (elemsOf (p.kids.map cPr))) u ∧ Rg p) len fun i hi => by
        have h1 := helem i hi
        rw [List.getElem?_eq_getElem (by omega), Option.bind_eq_some_iff] at h1
        obtain ⟨ci, h2, h3⟩ := h1
        obtain ⟨p, u, rfl, h4, h5⟩ := ih r ci _ (by omega) h3
        exact ⟨p, u, h2, h4, h5⟩
      refine ⟨.mk o col cm ⟨vn, vi, vs⟩ kd pt l, _, rfl, ?_, .mk _ hv0 hv1 fun x hx => ?_⟩
      · subst hl
        refine ⟨some a, cap, rfl, ⟨hlc, Nat.le_trans (Nat.le_trans hlc hcm) (by simp [maxLen])⟩, fun i hi j hj => ?_⟩
        obtain ⟨u, h1, h2, _⟩ := hQ i hi
        obtain ⟨-, hc⟩ := cells9 h1
        have hee := el_at (f := cPr) (l := l) (i := i) hi
        have hcj := hc j hj
        rw [add_add] at hcj
        have hv : ∃ v, (vPr l[i] u)[j]? = some v := ⟨_, List.getElem?_eq_getElem (by simpa using hj)⟩
        obtain ⟨v, hv⟩ := hv
        rw [hv] at hcj
        refine ⟨a, v, rfl, ?_, hcj, ?_⟩
        · have := cell_lt hcj
          rw [add_block] at this
          exact this
        · show RC _ _ (elemsOf (l.map cPr) i j) v
          rw [hee]
          match j, hj with
          | 0, _ => rw [el_Pr0]; exact (Option.some.inj hv).symm
          | 1, _ => rw [el_Pr1]; exact (Option.some.inj hv).symm
          | 2, _ => rw [el_Pr2]; exact (Option.some.inj hv).symm
          | 3, _ => rw [el_Pr3]; exact (Option.some.inj hv).symm
          | 4, _ => rw [el_Pr4]; exact (Option.some.inj hv).symm
          | 5, _ => rw [el_Pr5]; exact (Option.some.inj hv).symm
          | 6, _ => rw [el_Pr6]; exact (Option.some.inj hv).symm
          | 7, _ => rw [el_Pr7]; exact (Option.some.inj hv).symm
          | 8, _ => rw [el_Pr8]; obtain rfl := Option.some.inj hv; exact h2
      · obtain ⟨i, hi, rfl⟩ := List.getElem_of_mem hx
        obtain ⟨u, -, -, h3⟩ := hQ i hi
        exact h3
end
section
set_option maxRecDepth 100000
theorem sz_cnt {p : Pr} (h : mayP p = true) : p.cnt ≤ 16 ∧ p.dep ≤ 6 ∧ oneP p = true := by
  unfold mayP at h
  rw [Bool.and_eq_true, decide_eq_true_eq] at h
  have h2 := szP_is 6 16 p (by omega)
  by_cases hs : p.dep ≤ 6 ∧ (p.cnt : Int) ≤ 16
  · exact ⟨by omega, hs.1, h.2⟩
  · have := h2.2 hs
    omega
theorem c16 (p : Pr) (hs : Sm p) (hr : Rg p) : PC Tryz.prog 16 [aPr p] [] (fun r bx => r = A.str (if mayP p then ofL (txP p) else ⟨#[]⟩) ∧ bx = []) := by
  refine enter (rs := [.tmp 2]) mx Tryz.func16 Tryz.ntmps16 fun Q0 hQ0 => ?_
  refine sq fun _ _ => ?_
  refine rg (sg ?_)
  refine nx ?_
  refine sq fun _ _ => ?_
  refine sq fun _ _ => ?_
  refine rg (sg ?_)
  refine cl [] (sg ?_)
  refine (c28 _ (by first | assumption | omega | trivial | rfl)).mono ?_
  rintro r bx ⟨rfl, rfl⟩
  refine sg ?_
  refine nx ?_
  refine cb (fun h1 => ?_) (fun h1 => ?_)
  · refine sq fun _ _ => ?_
    refine rg (sg ?_)
    refine nx ?_
    refine rt (sg ?_)
    refine f1 (g := sg ?_)
    exact ax [] ⟨by rw [h1]; rfl, rfl⟩
  · rw [Bool.not_eq_false] at h1
    obtain ⟨hc, -, ho⟩ := sz_cnt h1
    refine sk (sg ?_)
    refine nx ?_
    refine sq fun _ _ => ?_
    refine rg (sg ?_)
    refine cl [] (sg ?_)
    refine (c38at p hs hr ho (by omega)).mono ?_
    rintro r bx ⟨rfl, rfl⟩
    refine sg ?_
    refine nx ?_
    refine rt ?_
    refine f1 (g := sg ?_)
    exact ax [] ⟨by rw [h1]; rfl, rfl⟩
def lv1 : Pr := .mk 2 ⟨#[97]⟩ 3 ⟨false, 5, ⟨#[]⟩⟩ 1 ⟨#[]⟩ []
def lv2 : Pr := .mk 4 ⟨#[99]⟩ 0 ⟨false, 0, ⟨#[]⟩⟩ 0 ⟨#[120, 37]⟩ []
def lv3 : Pr := .mk 5 ⟨#[]⟩ 0 ⟨false, 0, ⟨#[]⟩⟩ 0 ⟨#[]⟩ [lv2]
def lv4 : Pr := .mk 3 ⟨#[98]⟩ 0 ⟨false, 0, ⟨#[]⟩⟩ 0 ⟨#[]⟩ []
def lv5 : Pr := .mk 7 ⟨#[]⟩ 0 ⟨false, 0, ⟨#[]⟩⟩ 0 ⟨#[]⟩ [lv4, lv3]
def lvP : Pr := .mk 6 ⟨#[]⟩ 0 ⟨false, 0, ⟨#[]⟩⟩ 0 ⟨#[]⟩ [lv1, lv5]
theorem lv_sm : Sm lvP := smP_sm 5 lvP (by decide)
theorem rg_of (p : Pr) (h : allP (fun x => decide (-9223372036854775808 ≤ x.val.i) && decide (x.val.i ≤ 9223372036854775807)) p = true) : Rg p := by
  revert h
  revert p
  refine Pr.by_kids fun p ih h => ?_
  rw [allP_eq, Bool.and_eq_true, Bool.and_eq_true, decide_eq_true_eq, decide_eq_true_eq, List.all_eq_true] at h
  exact .mk p h.1.1 h.1.2 fun x hx => ih x hx (h.2 x hx)
theorem lv_rg : Rg lvP := rg_of _ (by decide)
theorem lv_may : mayP lvP = true := by decide
theorem itoa5 : Lib.itoa 5 = [53] := by
  rw [show (5 : Int) = ((5 : Nat) : Int) from rfl, Lib.itoa_nonneg, Lib.decDigits, dif_pos (by omega)]
  rfl
theorem lv_tx : ofL (txP lvP) = ⟨#[97, 32, 60, 32, 53, 32, 97, 110, 100, 32, 40, 98, 32, 105, 115, 32, 110, 117, 108, 108, 32, 111, 114, 32, 110, 111, 116, 32, 99, 32, 108, 105, 107, 101, 32, 39, 120, 37, 39, 41]⟩ := by
  have h1 : txP lv1 = [97, 32, 60, 32, 53] := by
    simp [lv1, txP, valS, itoa5, signL, bsL]
  have h2 : txP lv2 = [99, 32, 108, 105, 107, 101, 32, 39, 120, 37, 39] := by decide
  have h3 : txP lv3 = [110, 111, 116, 32] ++ txP lv2 := by
    simp [lv3, txP, txPs, parL, lv2, Pr.op, Lib.join_one]
  have h4 : txP lv4 = [98, 32, 105, 115, 32, 110, 117, 108, 108] := by decide
  have h5 : txP lv5 = txP lv4 ++ ([32, 111, 114, 32] ++ txP lv3) := by
    rw [txP_eq, show lv5.kids = [lv4, lv3] from rfl]
    simp [lv5, Pr.op, Lib.join_cons, Lib.joinTail, parL, sepL]
  have h6 : txP lvP = txP lv1 ++ ([32, 97, 110, 100, 32] ++ (40 :: (txP lv5 ++ [41]))) := by
    rw [txP_eq, show lvP.kids = [lv1, lv5] from rfl]
    simp [lvP, Pr.op, Lib.join_cons, Lib.joinTail, parL, sepL, lv1, lv5]
  rw [h6, h1, h5, h4, h3, h2]
  rfl
/-- A contract out of a walk: nothing in; what is known of the package variables is handed on. -/
theorem PC_nil {P : Program} {f : FuncId} {fn : Func} {Q : A → List B → Prop} (hf : P.funcs[f]? = some fn) (h : ∀ w : World, Gl (fun k => k < w.heap.size) w → Calls P f #[] w fun e w' => ∃ v r, e = .returned v ∧ Below w.heap.size w w' ∧ Q r [] ∧ ∀ ok, RA (RL [] ok w') r v)
    (hn : (fn.name == "runtime.NumGoroutine") = false := by kernel_rfl) (hb : fn.body.isSome = true := by kernel_rfl) : PC P f [] [] Q := by
  refine ⟨⟨fn, hf, hn, hb⟩, fun ok μ0 w cargs _ hm hl ha => ?_⟩
  have hμ : μ0 = [] := List.eq_nil_of_length_eq_zero hm.len
  subst hμ
  have hc : cargs = #[] := Array.eq_empty_of_size_eq_zero hl.symm
  subst hc
  refine (h w (hm.gl.keep hm.small fun _ _ => rfl)).mono fun e w' ⟨v, r, h1, h2, h3, h4⟩ => ⟨v, r, [], [], ok, h1, h3, h4 ok, ?_, fun g hg => by simp at hg, Fw.of _ h2, fun _ h => h, fun _ h => .inl h⟩
  exact ⟨rfl, fun i j b b' g h => by simp at h, fun i b g h => by simp at h, fun g hg => by simp at hg, fun k hk => Nat.lt_of_lt_of_le (hm.small k hk) h2.size, fun i b g h => by simp at h, hm.gl.keep (fun _ h => h) (fun k hk => h2.block k (hm.small k hk))⟩
/-- A call out of a contract: a predicate in, a value out. -/
theorem call_pr {f : FuncId} {p : Pr} {v : Value} (hc : PC Tryz.prog f [aPr p] [] (fun r bx => r = ofV v ∧ bx = [])) (hv : ∀ (μ : List Nat) (ok : Nat → Prop) (w : World) (u : Value), RA (RL μ ok w) (ofV v) u → u = v) {W : World} (hg : Gl (fun k => k < W.heap.size) W) {u : Value} (hu : RC (fun k => k < W.heap.size) W (.sl p.kids.length 9 (elemsOf (p.kids.map cPr))) u) :
    Calls Tryz.prog f #[.agg (vPr p u).toArray] W fun e W' => e = .returned v ∧ Below W.heap.size W W' := by
  have hm : Mem [] (fun k => k < W.heap.size) [] W := ⟨rfl, fun i j b b' g h _ _ _ _ _ => by simp at h, fun i b g h => by simp at h, fun g h => (nomatch h), fun k h => h, fun i b g h => by simp at h, hg⟩
  refine (hc.2 _ [] W _ (fun b h => by cases h) hm rfl fun j a h => ?_).mono fun e w' ⟨cv, r, bx, ν, ok', he, ⟨hr, hb⟩, hR, hM, hν, hF, _⟩ => ?_
  · rcases j with _ | j
    · obtain rfl := Option.some.inj h
      exact ⟨_, rfl, RA_nine hu⟩
    · cases h
  · subst hr
    exact ⟨by rw [he]; exact congrArg Ending.returned (hv _ _ _ _ hR), hF.below⟩
theorem flat9 : ∀ (l : List (Pr × Value)) (i j : Nat) (h : i < l.length), j < 9 → (l.flatMap fun x => vPr x.1 x.2)[i * 9 + j]? = (vPr l[i].1 l[i].2)[j]?
  | x :: r, 0, j, _, hj => by
    rw [List.flatMap_cons, List.getElem?_append_left (by simp; omega)]
    simp
  | x :: r, i + 1, j, h, hj => by
    rw [List.flatMap_cons, List.getElem?_append_right (by simp; omega)]
    have h2 := flat9 r i j (by simpa using h) hj
    have e : (i + 1) * 9 + j - (vPr x.1 x.2).length = i * 9 + j := by simp; omega
    rw [e, h2]
    rfl
/-- A row of predicates that lies in a block. -/
theorem row_RC {W : World} {g cap : Nat} {t : TypeId} {ok : Nat → Prop} (l : List (Pr × Value)) (hok : ok g) (hc : W.heap[g]? = some (.cells (l.flatMap fun x => vPr x.1 x.2).toArray t (0, 0))) (hu : ∀ x ∈ l, RC ok W (.sl x.1.kids.length 9 (elemsOf (x.1.kids.map cPr))) x.2)
    (h1 : l.length ≤ cap) (h2 : l.length ≤ 1000) : RC ok W (.sl l.length 9 (elemsOf ((l.map (·.1)).map cPr))) (.slice (some ⟨g, 0, none⟩) l.length cap) := by
  refine ⟨_, _, rfl, ⟨h1, by omega⟩, fun i hi j hj => ?_⟩
  have hv : ∃ v, (vPr l[i].1 l[i].2)[j]? = some v := ⟨_, List.getElem?_eq_getElem (by simpa using hj)⟩
  obtain ⟨v, hv⟩ := hv
  refine ⟨_, v, rfl, hok, ?_, ?_⟩
  · rw [add_lit]
    unfold World.cell?
    simp only [hc]
    rw [Nat.zero_add]
    simp only [Option.isSome_none, Bool.false_eq_true, if_false, List.getElem?_toArray]
    rw [flat9 l i j hi hj, hv]
  · rw [el_at (f := cPr) (l := l.map (·.1)) (by simpa using hi), List.getElem_map]
    match j, hj with
    | 0, _ => rw [el_Pr0]; exact (Option.some.inj hv).symm
    | 1, _ => rw [el_Pr1]; exact (Option.some.inj hv).symm
    | 2, _ => rw [el_Pr2]; exact (Option.some.inj hv).symm
    | 3, _ => rw [el_Pr3]; exact (Option.some.inj hv).symm
    | 4, _ => rw [el_Pr4]; exact (Option.some.inj hv).symm
    | 5, _ => rw [el_Pr5]; exact (Option.some.inj hv).symm
    | 6, _ => rw [el_Pr6]; exact (Option.some.inj hv).symm
    | 7, _ => rw [el_Pr7]; exact (Option.some.inj hv).symm
    | 8, _ => rw [el_Pr8]; obtain rfl := Option.some.inj hv; exact hu _ (List.getElem_mem hi)
theorem nil_RC {W : World} {ok : Nat → Prop} (f : Nat → Nat → C) : RC ok W (.sl 0 9 f) (.slice none 0 0) := ⟨none, 0, rfl, ⟨Nat.le_refl _, Nat.zero_le _⟩, fun i hi => absurd hi (Nat.not_lt_zero _)⟩
section
variable (w : World) (A0 A1 A2 A3 A4 A5 : Obj)
def six : World := (((((w.alloc A0).alloc A1).alloc A2).alloc A3).alloc A4).alloc A5
theorem six_size : (six w A0 A1 A2 A3 A4 A5).heap.size = w.heap.size + 6 := by
  unfold six
  rw [heapS, heapS, heapS, heapS, heapS, heapS]
theorem six1 : (six w A0 A1 A2 A3 A4 A5).heap[w.heap.size + 1]? = some A1 := by
  show ((((((w.heap.push A0).push A1).push A2).push A3).push A4).push A5)[w.heap.size + 1]? = _
  simp only [Array.getElem?_push, Array.size_push]
  simp
theorem six3 : (six w A0 A1 A2 A3 A4 A5).heap[w.heap.size + 1 + 1 + 1]? = some A3 := by
  show ((((((w.heap.push A0).push A1).push A2).push A3).push A4).push A5)[w.heap.size + 1 + 1 + 1]? = _
  simp only [Array.getElem?_push, Array.size_push]
  simp
theorem six4 : (six w A0 A1 A2 A3 A4 A5).heap[w.heap.size + 1 + 1 + 1 + 1]? = some A4 := by
  show ((((((w.heap.push A0).push A1).push A2).push A3).push A4).push A5)[w.heap.size + 1 + 1 + 1 + 1]? = _
  simp only [Array.getElem?_push, Array.size_push]
  simp
theorem six_below : Below w.heap.size w (six w A0 A1 A2 A3 A4 A5) := by
  unfold six
  have h3 := below3 w A0 A1 A2
  have e3 : (((w.alloc A0).alloc A1).alloc A2).heap.size = w.heap.size + 3 := by rw [heapS, heapS, heapS]
  exact ((h3.alloc (by omega) A3).alloc (by rw [heapS]; omega) A4).alloc (by rw [heapS, heapS]; omega) A5
end
theorem call_live (w : World) (hg : Gl (fun k => k < w.heap.size) w) (A0 A2 A5 : Obj) (t1 t3 t4 : TypeId) :
    Calls Tryz.prog 16 #[.agg #[.int .i64 6, .string ⟨#[]⟩, .int .i64 0, .bool false, .int .i64 0, .string ⟨#[]⟩, .int .i64 0, .string ⟨#[]⟩, .slice (some ⟨w.heap.size + 1 + 1 + 1 + 1, 0, none⟩) 2 2]]
      (six w A0 (.cells (vPr lv2 (.slice none 0 0)).toArray t1 (0, 0)) A2 (.cells (vPr lv4 (.slice none 0 0) ++ vPr lv3 (.slice (some ⟨w.heap.size + 1, 0, none⟩) 1 1)).toArray t3 (0, 0)) (.cells (vPr lv1 (.slice none 0 0) ++ vPr lv5 (.slice (some ⟨w.heap.size + 1 + 1 + 1, 0, none⟩) 2 2)).toArray t4 (0, 0)) A5)
      fun e w' => e = .returned (.string ⟨#[97, 32, 60, 32, 53, 32, 97, 110, 100, 32, 40, 98, 32, 105, 115, 32, 110, 117, 108, 108, 32, 111, 114, 32, 110, 111, 116, 32, 99, 32, 108, 105, 107, 101, 32, 39, 120, 37, 39, 41]⟩) ∧ Below w.heap.size w w' := by
  generalize hA1 : Obj.cells (vPr lv2 (.slice none 0 0)).toArray t1 (0, 0) = A1
  generalize hA3 : Obj.cells (vPr lv4 (.slice none 0 0) ++ vPr lv3 (.slice (some ⟨w.heap.size + 1, 0, none⟩) 1 1)).toArray t3 (0, 0) = A3
  generalize hA4 : Obj.cells (vPr lv1 (.slice none 0 0) ++ vPr lv5 (.slice (some ⟨w.heap.size + 1 + 1 + 1, 0, none⟩) 2 2)).toArray t4 (0, 0) = A4
  have hb := six_below w A0 A1 A2 A3 A4 A5
  have hs := six_size w A0 A1 A2 A3 A4 A5
  have e1 := six1 w A0 A1 A2 A3 A4 A5
  have e3 := six3 w A0 A1 A2 A3 A4 A5
  have e4 := six4 w A0 A1 A2 A3 A4 A5
  generalize six w A0 A1 A2 A3 A4 A5 = W at hb hs e1 e3 e4 ⊢
  subst hA1 hA3 hA4
  have r1 : RC (fun k => k < W.heap.size) W (.sl 1 9 (elemsOf ([lv2].map cPr))) (.slice (some ⟨w.heap.size + 1, 0, none⟩) 1 1) :=
    row_RC (cap := 1) [(lv2, .slice none 0 0)] (by show _ < _; omega) e1 (fun x hx => by rcases List.mem_singleton.1 hx with rfl; exact nil_RC _) (Nat.le_refl _) (by simp)
  have r3 : RC (fun k => k < W.heap.size) W (.sl 2 9 (elemsOf ([lv4, lv3].map cPr))) (.slice (some ⟨w.heap.size + 1 + 1 + 1, 0, none⟩) 2 2) :=
    row_RC (cap := 2) [(lv4, .slice none 0 0), (lv3, .slice (some ⟨w.heap.size + 1, 0, none⟩) 1 1)] (by show _ < _; omega) e3 (fun x hx => by
      rcases List.mem_cons.1 hx with rfl | hx
      · exact nil_RC _
      · rcases List.mem_singleton.1 hx with rfl
        exact r1) (Nat.le_refl _) (by simp)
  have r4 : RC (fun k => k < W.heap.size) W (.sl 2 9 (elemsOf ([lv1, lv5].map cPr))) (.slice (some ⟨w.heap.size + 1 + 1 + 1 + 1, 0, none⟩) 2 2) :=
    row_RC (cap := 2) [(lv1, .slice none 0 0), (lv5, .slice (some ⟨w.heap.size + 1 + 1 + 1, 0, none⟩) 2 2)] (by show _ < _; omega) e4 (fun x hx => by
      rcases List.mem_cons.1 hx with rfl | hx
      · exact nil_RC _
      · rcases List.mem_singleton.1 hx with rfl
        exact r3) (Nat.le_refl _) (by simp)
  have hgW : Gl (fun k => k < W.heap.size) W := hg.keep (fun k hk => by show _ < _; have : k < w.heap.size := hk; omega) (fun k hk => hb.block k hk)
  have hc := c16 lvP lv_sm lv_rg
  rw [lv_may, if_pos rfl, lv_tx] at hc
  refine (call_pr (v := .string _) hc (fun μ ok w u h => h) hgW r4).mono fun e w' ⟨h1, h2⟩ => ⟨h1, ?_⟩
  exact hb.trans (h2.mono (by omega))
end
section
set_option maxRecDepth 100000
/-! A query in words. -/
theorem join_len (l : List (List UInt8)) (sep : List UInt8) (b : Nat) (h : ∀ x ∈ l, x.length ≤ b) : (Lib.join l sep).length ≤ l.length * (b + sep.length) := by
  have ht : ∀ r : List (List UInt8), (∀ x ∈ r, x.length ≤ b) → (Lib.joinTail sep r).length ≤ r.length * (b + sep.length) := by
    intro r
    induction r with
    | nil => intro _; simp [Lib.joinTail]
    | cons x r ih =>
      intro hx
      have h1 := ih fun y hy => hx y (by simp [hy])
      have h2 := hx x (by simp)
      have e : Lib.joinTail sep (x :: r) = (sep ++ x) ++ Lib.joinTail sep r := by simp [Lib.joinTail]
      rw [e, List.length_append, List.length_append, List.length_cons, Nat.add_mul]
      omega
  cases l with
  | nil => rw [Lib.join_nil]; simp
  | cons x r =>
    have h1 := ht r fun y hy => h y (by simp [hy])
    have h2 := h x (by simp)
    rw [Lib.join_cons, List.length_append, List.length_cons, Nat.add_mul]
    omega
/-- What is asked for, with the star. -/
def askS (q : Qu) : List ByteArray := if askB q = [] then [⟨#[42]⟩] else askB q
theorem askS_e {q : Qu} (h : askB q = []) : askS q = [⟨#[42]⟩] := if_pos h
theorem askS_n {q : Qu} (h : askB q ≠ []) : askS q = askB q := if_neg h
theorem askS_bs (q : Qu) : (askS q).map bsL = askE q := by
  unfold askS askE
  rw [← askB_bs]
  by_cases h : askB q = []
  · rw [if_pos h, if_pos (by rw [h]; rfl)]
    rfl
  · rw [if_neg h, if_neg (by simpa using h)]
theorem askS_join (q : Qu) : Lib.join ((askS q).map bsL) (bsL ⟨#[44, 32]⟩) = askT q := by rw [askS_bs, askT_eq]
theorem askB_size {q : Qu} (hq : SmQ q) : ∀ x ∈ askB q, (bsL x).length ≤ 105 := by
  intro x hx
  unfold askB askP at hx
  rcases List.mem_append.1 hx with hx | hx
  · have := hq.col x hx
    rw [len_bsL]
    omega
  · obtain ⟨a, ha, rfl⟩ := List.mem_map.1 hx
    exact told_len a (hq.agg a (List.mem_of_mem_take ha))
theorem askB_len {q : Qu} (hq : SmQ q) : (askB q).length ≤ 30 := askP_len q hq _
theorem askS_len {q : Qu} (hq : SmQ q) : (askS q).length ≤ 30 := by
  unfold askS
  split
  · simp
  · exact askB_len hq
theorem askT_len {q : Qu} (hq : SmQ q) : (askT q).length ≤ 4000 := by
  have h1 : ∀ x ∈ (askS q).map bsL, x.length ≤ 105 := by
    intro x hx
    obtain ⟨y, hy, rfl⟩ := List.mem_map.1 hx
    unfold askS at hy
    split at hy
    · rcases List.mem_singleton.1 hy with rfl
      decide
    · exact askB_size hq y hy
  have h2 := join_len _ [44, 32] 105 h1
  have h3 := askS_len hq
  have h4 := askS_join q
  rw [show bsL (⟨#[44, 32]⟩ : ByteArray) = [44, 32] from rfl] at h4
  rw [← h4]
  rw [List.length_map] at h2
  have h5 : ([44, 32] : List UInt8).length = 2 := rfl
  rw [h5] at h2
  omega
theorem cat5 {a b c d : ByteArray} {x y z t : List UInt8} (ha : a = ofL x) (hb : b = ofL y) (hc : c = ofL z) (hd : d = ofL t) : a ++ b ++ c ++ d = ofL (x ++ (y ++ (z ++ t))) := by
  subst ha hb hc hd
  apply ba_ext
  simp [bsL, ByteArray.data_append]
/-- The text's first part. -/
def hdQ (q : Qu) : List UInt8 := selL ++ (askT q ++ (fromL ++ bsL q.table))
theorem txQ_hd (q : Qu) : txQ q = hdQ q ++ (wheT q ++ grpT q) := by simp [txQ, hdQ]
theorem hdQ_len {q : Qu} (hq : SmQ q) : (ofL (hdQ q)).size ≤ 5000 := by
  have h1 := askT_len hq
  have h2 := hq.table
  have h3 := len_bsL q.table
  rw [sz_ofL]
  simp only [hdQ, selL, fromL, List.length_append, List.length_cons, List.length_nil]
  omega
set_option maxHeartbeats 8000000 in
theorem c7 (q : Qu) (hq : SmQ q) (hr : Rg q.whr) : PC Tryz.prog 7 [aQu q] [] (fun r bx => r = A.str (if mayQ q then ofL (txQ q) else ⟨#[]⟩) ∧ bx = []) := by
  have hw := hq.whr
  have htb := hq.table
  have hby := hq.by_
  have hjl := askT_len hq
  have hsl := askS_len hq
  have hal := askB_len hq
  refine enter (rs := [.tmp 2]) mx Tryz.func7 Tryz.ntmps7 fun Q0 hQ0 => ?_
  refine sq fun _ _ => ?_
  refine rg (sg ?_)
  refine nx ?_
  refine sq fun _ _ => ?_
  refine sq fun _ _ => ?_
  refine rg (sg ?_)
  refine cl [] (sg ?_)
  refine (c13 _ (by first | assumption | omega | trivial | rfl)).mono ?_
  rintro r bx ⟨rfl, rfl⟩
  refine sg ?_
  refine nx ?_
  refine cb (fun h1 => ?_) (fun h1 => ?_)
  · refine sq fun _ _ => ?_
    refine rg (sg ?_)
    refine nx ?_
    refine rt (sg ?_)
    refine f1 (g := sg ?_)
    exact ax [] ⟨by rw [h1]; rfl, rfl⟩
  · rw [Bool.not_eq_false] at h1
    rw [h1, if_pos rfl] at hQ0
    have hm := mayQ_whr h1
    have hpl := txP_len q.whr hw hr
    have hpc := (sz_cnt hm).1
    refine sk (sg ?_)
    refine nx ?_
    refine sq fun _ _ => ?_
    refine rg (sg ?_)
    refine cl [] (sg ?_)
    refine (c14o q hq).mono ?_
    rintro r bx (⟨hz, rfl, rfl⟩ | ⟨rfl, rfl⟩)
    · have hS := askS_e hz
      refine sg ?_
      refine nx ?_
      refine sq fun _ _ => ?_
      refine sq fun _ _ => ?_
      refine rg (sg ?_)
      refine nx ?_
      refine ct (hx := ?_)
      refine rg (sg ?_)
      refine nx ?_
      refine sq fun _ _ => ?_
      refine dr [.take 0, .take 4, .take 5, .one 1, .pure 2, .pure 3, .pure 6, .pure 7] [] (sg ?_)
      refine cl [] (sg ?_)
      have hjn : Lib.join (([⟨#[42]⟩] : List ByteArray).map bsL) (bsL ⟨#[44, 32]⟩) = askT q := by rw [← hS, askS_join]
      have hjn2 : Lib.join [bsL ⟨#[42]⟩] (bsL ⟨#[44, 32]⟩) = askT q := hjn
      refine (c15 _ [⟨#[42]⟩] _ 1 rfl ?_ ?_ (by simp)).mono ?_
      · intro i h
        match i, h with
        | 0, _ => rfl
      · show (Lib.join (List.map bsL _) (bsL ⟨#[44, 32]⟩)).length ≤ _
        rw [hjn]
        omega
      · rintro r bx ⟨rfl, rfl⟩
        refine sg ?_
        simp only [hjn2]
        have hH : (⟨#[115, 101, 108, 101, 99, 116, 32]⟩ : ByteArray) ++ ofL (askT q) ++ ⟨#[32, 102, 114, 111, 109, 32]⟩ ++ q.table = ofL (hdQ q) := cat5 rfl rfl rfl (of_bsL q.table).symm
        have hHl := hdQ_len hq
        refine .inl ⟨by simp [cleanA, leafIn, cleanL], by trivial, ?_⟩
        refine And.intro (by simp; omega) ?_
        refine And.intro (by simp; omega) ?_
        refine And.intro (by simp; omega) ?_
        refine nx ?_
        refine sq fun _ _ => ?_
        refine sq fun _ _ => ?_
        refine rg (sg ?_)
        refine nx ?_
        rw [hH]
        have z1 : (#[32, 119, 104, 101, 114, 101, 32] : Array UInt8).size = 7 := rfl
        have z2 : (hdQ q).toArray.size ≤ 5000 := hHl
        have z3 : (txP q.whr).toArray.size ≤ 6400 := by rw [List.size_toArray]; omega
        have z6 : (ofL (txP q.whr)).size ≤ 6400 := z3
        have z4 : (#[32, 103, 114, 111, 117, 112, 32, 98, 121, 32] : Array UInt8).size = 10 := rfl
        refine cb (fun g1 => ?_) (fun g1 => ?_)
        · have hwh : wheT q = wheL ++ txP q.whr := by unfold wheT; rw [if_neg g1]
          have hW : ofL (hdQ q) ++ (⟨#[32, 119, 104, 101, 114, 101, 32]⟩ ++ ofL (txP q.whr)) = ofL (hdQ q ++ wheT q) := by
            rw [hwh]
            exact ba_ext (by simp [bsL, ByteArray.data_append, wheL])
          refine rg (sg ?_)
          refine cl [] (sg ?_)
          refine (c16 _ (by first | assumption | omega | trivial | rfl) (by first | assumption | omega | trivial | rfl)).mono ?_
          rintro r bx ⟨rfl, rfl⟩
          refine sg ?_
          simp only [if_pos hm]
          refine And.intro (by first | assumption | omega | rfl | trivial) ?_
          refine And.intro (by first | assumption | omega | rfl | trivial) ?_
          refine nx ?_
          refine sq fun _ _ => ?_
          refine sq fun _ _ => ?_
          refine rg (sg ?_)
          refine nx ?_
          rw [hW]
          have z5 : (hdQ q ++ wheT q).toArray.size ≤ 12000 := by
            rw [List.size_toArray, List.length_append, hwh]
            rw [List.size_toArray] at z2 z3
            first | (simp only [wheL, List.length_append, List.length_cons, List.length_nil]; omega) | (simp only [List.length_nil]; omega)
          skip
          refine cb (fun g2 => ?_) (fun g2 => ?_)
          · have hg : grpT q = grpL ++ bsL q.by_ := by unfold grpT; rw [if_neg g2]
            refine rg (sg ?_)
            refine And.intro (by first | assumption | omega | rfl | trivial) ?_
            refine And.intro (by first | assumption | omega | rfl | trivial) ?_
            refine nx ?_
            refine sq fun _ _ => ?_
            refine rg (sg ?_)
            refine nx ?_
            refine rt ?_
            refine f1 (g := sg ?_)
            refine ax [] ⟨congrArg A.str ?_, rfl⟩
            rw [txQ_hd, hg, ← List.append_assoc]
            exact ba_ext (by simp [bsL, ByteArray.data_append, grpL])
          · have hg : grpT q = [] := by unfold grpT; rw [if_pos (Classical.byContradiction g2)]
            refine sk (sg ?_)
            refine nx ?_
            refine sq fun _ _ => ?_
            refine rg (sg ?_)
            refine nx ?_
            refine rt ?_
            refine f1 (g := sg ?_)
            exact ax [] ⟨congrArg A.str (by rw [txQ_hd, hg, List.append_nil]), rfl⟩
        · have hwh : wheT q = [] := by unfold wheT; rw [if_pos (Classical.byContradiction g1)]
          have hW : ofL (hdQ q) = ofL (hdQ q ++ wheT q) := by rw [hwh, List.append_nil]
          rw [hW]
          have z5 : (hdQ q ++ wheT q).toArray.size ≤ 12000 := by
            rw [List.size_toArray, List.length_append, hwh]
            rw [List.size_toArray] at z2 z3
            first | (simp only [wheL, List.length_append, List.length_cons, List.length_nil]; omega) | (simp only [List.length_nil]; omega)
          refine sk (sg ?_)
          refine nx ?_
          refine sq fun _ _ => ?_
          refine sq fun _ _ => ?_
          refine rg (sg ?_)
          refine nx ?_
          refine cb (fun g2 => ?_) (fun g2 => ?_)
          · have hg : grpT q = grpL ++ bsL q.by_ := by unfold grpT; rw [if_neg g2]
            refine rg (sg ?_)
            refine And.intro (by first | assumption | omega | rfl | trivial) ?_
            refine And.intro (by first | assumption | omega | rfl | trivial) ?_
            refine nx ?_
            refine sq fun _ _ => ?_
            refine rg (sg ?_)
            refine nx ?_
            refine rt ?_
            refine f1 (g := sg ?_)
            refine ax [] ⟨congrArg A.str ?_, rfl⟩
            rw [txQ_hd, hg, ← List.append_assoc]
            exact ba_ext (by simp [bsL, ByteArray.data_append, grpL])
          · have hg : grpT q = [] := by unfold grpT; rw [if_pos (Classical.byContradiction g2)]
            refine sk (sg ?_)
            refine nx ?_
            refine sq fun _ _ => ?_
            refine rg (sg ?_)
            refine nx ?_
            refine rt ?_
            refine f1 (g := sg ?_)
            exact ax [] ⟨congrArg A.str (by rw [txQ_hd, hg, List.append_nil]), rfl⟩
    · refine sg ?_
      refine nx ?_
      refine sq fun _ _ => ?_
      refine sq fun _ _ => ?_
      refine rg (sg ?_)
      refine nx ?_
      refine cb (fun g0 => ?_) (fun g0 => ?_)
      · have hz : askB q = [] := List.eq_nil_of_length_eq_zero (by omega)
        have hS := askS_e hz
        refine rg (sg ?_)
        refine nx ?_
        refine sq fun _ _ => ?_
        refine dr [.take 0, .take 4, .take 5, .one 1, .pure 2, .pure 3, .pure 6, .pure 7] [] (sg ?_)
        refine cl [] (sg ?_)
        have hjn : Lib.join (([⟨#[42]⟩] : List ByteArray).map bsL) (bsL ⟨#[44, 32]⟩) = askT q := by rw [← hS, askS_join]
        have hjn2 : Lib.join [bsL ⟨#[42]⟩] (bsL ⟨#[44, 32]⟩) = askT q := hjn
        refine (c15 _ [⟨#[42]⟩] _ 1 rfl ?_ ?_ (by simp)).mono ?_
        · intro i h
          match i, h with
          | 0, _ => rfl
        · show (Lib.join (List.map bsL _) (bsL ⟨#[44, 32]⟩)).length ≤ _
          rw [hjn]
          omega
        · rintro r bx ⟨rfl, rfl⟩
          refine sg ?_
          simp only [hjn2]
          have hH : (⟨#[115, 101, 108, 101, 99, 116, 32]⟩ : ByteArray) ++ ofL (askT q) ++ ⟨#[32, 102, 114, 111, 109, 32]⟩ ++ q.table = ofL (hdQ q) := cat5 rfl rfl rfl (of_bsL q.table).symm
          have hHl := hdQ_len hq
          refine .inl ⟨by simp [cleanA, leafIn, cleanL], by trivial, ?_⟩
          refine And.intro (by simp; omega) ?_
          refine And.intro (by simp; omega) ?_
          refine And.intro (by simp; omega) ?_
          refine nx ?_
          refine sq fun _ _ => ?_
          refine sq fun _ _ => ?_
          refine rg (sg ?_)
          refine nx ?_
          rw [hH]
          have z1 : (#[32, 119, 104, 101, 114, 101, 32] : Array UInt8).size = 7 := rfl
          have z2 : (hdQ q).toArray.size ≤ 5000 := hHl
          have z3 : (txP q.whr).toArray.size ≤ 6400 := by rw [List.size_toArray]; omega
          have z6 : (ofL (txP q.whr)).size ≤ 6400 := z3
          have z4 : (#[32, 103, 114, 111, 117, 112, 32, 98, 121, 32] : Array UInt8).size = 10 := rfl
          refine cb (fun g1 => ?_) (fun g1 => ?_)
          · have hwh : wheT q = wheL ++ txP q.whr := by unfold wheT; rw [if_neg g1]
            have hW : ofL (hdQ q) ++ (⟨#[32, 119, 104, 101, 114, 101, 32]⟩ ++ ofL (txP q.whr)) = ofL (hdQ q ++ wheT q) := by
              rw [hwh]
              exact ba_ext (by simp [bsL, ByteArray.data_append, wheL])
            refine rg (sg ?_)
            refine cl [] (sg ?_)
            refine (c16 _ (by first | assumption | omega | trivial | rfl) (by first | assumption | omega | trivial | rfl)).mono ?_
            rintro r bx ⟨rfl, rfl⟩
            refine sg ?_
            simp only [if_pos hm]
            refine And.intro (by first | assumption | omega | rfl | trivial) ?_
            refine And.intro (by first | assumption | omega | rfl | trivial) ?_
            refine nx ?_
            refine sq fun _ _ => ?_
            refine sq fun _ _ => ?_
            refine rg (sg ?_)
            refine nx ?_
            rw [hW]
            have z5 : (hdQ q ++ wheT q).toArray.size ≤ 12000 := by
              rw [List.size_toArray, List.length_append, hwh]
              rw [List.size_toArray] at z2 z3
              first | (simp only [wheL, List.length_append, List.length_cons, List.length_nil]; omega) | (simp only [List.length_nil]; omega)
            skip
            refine cb (fun g2 => ?_) (fun g2 => ?_)
            · have hg : grpT q = grpL ++ bsL q.by_ := by unfold grpT; rw [if_neg g2]
              refine rg (sg ?_)
              refine And.intro (by first | assumption | omega | rfl | trivial) ?_
              refine And.intro (by first | assumption | omega | rfl | trivial) ?_
              refine nx ?_
              refine sq fun _ _ => ?_
              refine rg (sg ?_)
              refine nx ?_
              refine rt ?_
              refine f1 (g := sg ?_)
              refine ax [] ⟨congrArg A.str ?_, rfl⟩
              rw [txQ_hd, hg, ← List.append_assoc]
              exact ba_ext (by simp [bsL, ByteArray.data_append, grpL])
            · have hg : grpT q = [] := by unfold grpT; rw [if_pos (Classical.byContradiction g2)]
              refine sk (sg ?_)
              refine nx ?_
              refine sq fun _ _ => ?_
              refine rg (sg ?_)
              refine nx ?_
              refine rt ?_
              refine f1 (g := sg ?_)
              exact ax [] ⟨congrArg A.str (by rw [txQ_hd, hg, List.append_nil]), rfl⟩
          · have hwh : wheT q = [] := by unfold wheT; rw [if_pos (Classical.byContradiction g1)]
            have hW : ofL (hdQ q) = ofL (hdQ q ++ wheT q) := by rw [hwh, List.append_nil]
            rw [hW]
            have z5 : (hdQ q ++ wheT q).toArray.size ≤ 12000 := by
              rw [List.size_toArray, List.length_append, hwh]
              rw [List.size_toArray] at z2 z3
              first | (simp only [wheL, List.length_append, List.length_cons, List.length_nil]; omega) | (simp only [List.length_nil]; omega)
            refine sk (sg ?_)
            refine nx ?_
            refine sq fun _ _ => ?_
            refine sq fun _ _ => ?_
            refine rg (sg ?_)
            refine nx ?_
            refine cb (fun g2 => ?_) (fun g2 => ?_)
            · have hg : grpT q = grpL ++ bsL q.by_ := by unfold grpT; rw [if_neg g2]
              refine rg (sg ?_)
              refine And.intro (by first | assumption | omega | rfl | trivial) ?_
              refine And.intro (by first | assumption | omega | rfl | trivial) ?_
              refine nx ?_
              refine sq fun _ _ => ?_
              refine rg (sg ?_)
              refine nx ?_
              refine rt ?_
              refine f1 (g := sg ?_)
              refine ax [] ⟨congrArg A.str ?_, rfl⟩
              rw [txQ_hd, hg, ← List.append_assoc]
              exact ba_ext (by simp [bsL, ByteArray.data_append, grpL])
            · have hg : grpT q = [] := by unfold grpT; rw [if_pos (Classical.byContradiction g2)]
              refine sk (sg ?_)
              refine nx ?_
              refine sq fun _ _ => ?_
              refine rg (sg ?_)
              refine nx ?_
              refine rt ?_
              refine f1 (g := sg ?_)
              exact ax [] ⟨congrArg A.str (by rw [txQ_hd, hg, List.append_nil]), rfl⟩
      · have hS := askS_n (q := q) (fun h => g0 (by rw [h]; rfl))
        refine sk (sg ?_)
        refine nx ?_
        refine sq fun _ _ => ?_
        refine dr [.take 0, .take 4, .take 5, .one 1, .pure 2, .pure 3, .pure 6, .pure 7] [] (sg ?_)
        refine cl [] (sg ?_)
        have hjn : Lib.join ((askB q).map bsL) (bsL ⟨#[44, 32]⟩) = askT q := by rw [← hS, askS_join]
        refine (c15 _ (askB q) _ _ rfl ?_ ?_ (by omega)).mono ?_
        · intro j h
          rw [el_at h]
          rfl
        · show (Lib.join (List.map bsL _) (bsL ⟨#[44, 32]⟩)).length ≤ _
          rw [hjn]
          omega
        · rintro r bx ⟨rfl, rfl⟩
          refine sg ?_
          simp only [hjn]
          have hH : (⟨#[115, 101, 108, 101, 99, 116, 32]⟩ : ByteArray) ++ ofL (askT q) ++ ⟨#[32, 102, 114, 111, 109, 32]⟩ ++ q.table = ofL (hdQ q) := cat5 rfl rfl rfl (of_bsL q.table).symm
          have hHl := hdQ_len hq
          refine .inl ⟨by simp [cleanA, leafIn, cleanL], by trivial, ?_⟩
          refine And.intro (by simp; omega) ?_
          refine And.intro (by simp; omega) ?_
          refine And.intro (by simp; omega) ?_
          refine nx ?_
          refine sq fun _ _ => ?_
          refine sq fun _ _ => ?_
          refine rg (sg ?_)
          refine nx ?_
          rw [hH]
          have z1 : (#[32, 119, 104, 101, 114, 101, 32] : Array UInt8).size = 7 := rfl
          have z2 : (hdQ q).toArray.size ≤ 5000 := hHl
          have z3 : (txP q.whr).toArray.size ≤ 6400 := by rw [List.size_toArray]; omega
          have z6 : (ofL (txP q.whr)).size ≤ 6400 := z3
          have z4 : (#[32, 103, 114, 111, 117, 112, 32, 98, 121, 32] : Array UInt8).size = 10 := rfl
          refine cb (fun g1 => ?_) (fun g1 => ?_)
          · have hwh : wheT q = wheL ++ txP q.whr := by unfold wheT; rw [if_neg g1]
            have hW : ofL (hdQ q) ++ (⟨#[32, 119, 104, 101, 114, 101, 32]⟩ ++ ofL (txP q.whr)) = ofL (hdQ q ++ wheT q) := by
              rw [hwh]
              exact ba_ext (by simp [bsL, ByteArray.data_append, wheL])
            refine rg (sg ?_)
            refine cl [] (sg ?_)
            refine (c16 _ (by first | assumption | omega | trivial | rfl) (by first | assumption | omega | trivial | rfl)).mono ?_
            rintro r bx ⟨rfl, rfl⟩
            refine sg ?_
            simp only [if_pos hm]
            refine And.intro (by first | assumption | omega | rfl | trivial) ?_
            refine And.intro (by first | assumption | omega | rfl | trivial) ?_
            refine nx ?_
            refine sq fun _ _ => ?_
            refine sq fun _ _ => ?_
            refine rg (sg ?_)
            refine nx ?_
            rw [hW]
            have z5 : (hdQ q ++ wheT q).toArray.size ≤ 12000 := by
              rw [List.size_toArray, List.length_append, hwh]
              rw [List.size_toArray] at z2 z3
              first | (simp only [wheL, List.length_append, List.length_cons, List.length_nil]; omega) | (simp only [List.length_nil]; omega)
            skip
            refine cb (fun g2 => ?_) (fun g2 => ?_)
            · have hg : grpT q = grpL ++ bsL q.by_ := by unfold grpT; rw [if_neg g2]
              refine rg (sg ?_)
              refine And.intro (by first | assumption | omega | rfl | trivial) ?_
              refine And.intro (by first | assumption | omega | rfl | trivial) ?_
              refine nx ?_
              refine sq fun _ _ => ?_
              refine rg (sg ?_)
              refine nx ?_
              refine rt ?_
              refine f1 (g := sg ?_)
              refine ax [] ⟨congrArg A.str ?_, rfl⟩
              rw [txQ_hd, hg, ← List.append_assoc]
              exact ba_ext (by simp [bsL, ByteArray.data_append, grpL])
            · have hg : grpT q = [] := by unfold grpT; rw [if_pos (Classical.byContradiction g2)]
              refine sk (sg ?_)
              refine nx ?_
              refine sq fun _ _ => ?_
              refine rg (sg ?_)
              refine nx ?_
              refine rt ?_
              refine f1 (g := sg ?_)
              exact ax [] ⟨congrArg A.str (by rw [txQ_hd, hg, List.append_nil]), rfl⟩
          · have hwh : wheT q = [] := by unfold wheT; rw [if_pos (Classical.byContradiction g1)]
            have hW : ofL (hdQ q) = ofL (hdQ q ++ wheT q) := by rw [hwh, List.append_nil]
            rw [hW]
            have z5 : (hdQ q ++ wheT q).toArray.size ≤ 12000 := by
              rw [List.size_toArray, List.length_append, hwh]
              rw [List.size_toArray] at z2 z3
              first | (simp only [wheL, List.length_append, List.length_cons, List.length_nil]; omega) | (simp only [List.length_nil]; omega)
            refine sk (sg ?_)
            refine nx ?_
            refine sq fun _ _ => ?_
            refine sq fun _ _ => ?_
            refine rg (sg ?_)
            refine nx ?_
            refine cb (fun g2 => ?_) (fun g2 => ?_)
            · have hg : grpT q = grpL ++ bsL q.by_ := by unfold grpT; rw [if_neg g2]
              refine rg (sg ?_)
              refine And.intro (by first | assumption | omega | rfl | trivial) ?_
              refine And.intro (by first | assumption | omega | rfl | trivial) ?_
              refine nx ?_
              refine sq fun _ _ => ?_
              refine rg (sg ?_)
              refine nx ?_
              refine rt ?_
              refine f1 (g := sg ?_)
              refine ax [] ⟨congrArg A.str ?_, rfl⟩
              rw [txQ_hd, hg, ← List.append_assoc]
              exact ba_ext (by simp [bsL, ByteArray.data_append, grpL])
            · have hg : grpT q = [] := by unfold grpT; rw [if_pos (Classical.byContradiction g2)]
              refine sk (sg ?_)
              refine nx ?_
              refine sq fun _ _ => ?_
              refine rg (sg ?_)
              refine nx ?_
              refine rt ?_
              refine f1 (g := sg ?_)
              exact ax [] ⟨congrArg A.str (by rw [txQ_hd, hg, List.append_nil]), rfl⟩
end
section
set_option maxRecDepth 100000
/-! The columns in a predicate: the law's own. -/
theorem any_take (l : List ByteArray) (c : ByteArray) (i : Nat) (h : i < l.length) : (l.take (i + 1)).any (fun x => decide (x = c)) = ((l.take i).any (fun x => decide (x = c)) || decide (l[i] = c)) := by
  rw [List.take_add_one, List.getElem?_eq_getElem h, List.any_append]
  simp
end
section
set_option maxRecDepth 100000
/-! The law's own text. -/
/-- The kids' texts, put together one by one. -/
def jnT (p : Pr) (i : Nat) : List UInt8 := Lib.join ((p.kids.take i).map fun k => parL p.op k.op (txP k)) (sepL p.op)
theorem join_snoc (l : List (List UInt8)) (x s : List UInt8) : Lib.join (l ++ [x]) s = if l = [] then x else Lib.join l s ++ (s ++ x) := by
  cases l with
  | nil => rw [if_pos rfl, List.nil_append, Lib.join_one]
  | cons a r =>
    rw [if_neg (by simp), List.cons_append, Lib.join_cons, Lib.join_cons]
    simp [Lib.joinTail]
theorem jnT_0 (p : Pr) : jnT p 0 = [] := by
  unfold jnT
  rw [List.take_zero, List.map_nil, Lib.join_nil]
theorem jnT_succ (p : Pr) (i : Nat) (h : i < p.kids.length) : jnT p (i + 1) = if i = 0 then parL p.op p.kids[i].op (txP p.kids[i]) else jnT p i ++ (sepL p.op ++ parL p.op p.kids[i].op (txP p.kids[i])) := by
  unfold jnT
  rw [List.take_add_one, List.getElem?_eq_getElem h, List.map_append]
  show Lib.join (_ ++ [_]) _ = _
  rw [join_snoc]
  by_cases hi : i = 0
  · subst hi
    rw [List.take_zero, List.map_nil, if_pos rfl, if_pos rfl]
  · rw [if_neg hi, if_neg]
    intro h2
    have h3 := congrArg List.length h2
    simp only [List.length_map, List.length_take, List.length_nil] at h3
    omega
theorem jnT_all (p : Pr) : jnT p p.kids.length = Lib.join (p.kids.map fun k => parL p.op k.op (txP k)) (sepL p.op) := by
  unfold jnT
  rw [List.take_length]
theorem jnT_len (p : Pr) (hs : Sm p) (hr : Rg p) (i : Nat) : (jnT p i).length ≤ 400 * cnts p.kids + 7 * p.kids.length := by
  have hm : ∀ (l : List Pr), (∀ x ∈ l, x ∈ p.kids) → (Lib.join (l.map fun k => parL p.op k.op (txP k)) (sepL p.op)).length ≤ 400 * cnts l + 7 * l.length := by
    intro l hl
    have hk : ∀ x ∈ l, (txP x).length ≤ 400 * x.cnt := fun x hx => txP_len x (hs.kid x (hl x hx)) (hr.kid x (hl x hx))
    cases l with
    | nil => rw [List.map_nil, Lib.join_nil]; simp
    | cons x r =>
      have e1 := joinTail_len p.op r fun y hy => hk y (by simp [hy])
      have e2 := parL_len p.op x.op (txP x)
      have e3 := hk x (by simp)
      rw [List.map_cons, Lib.join_cons, List.length_append, cnts, List.length_cons]
      omega
  have h1 := hm (p.kids.take i) fun x hx => List.mem_of_mem_take hx
  have h2 : ∀ (l : List Pr) (i : Nat), cnts (l.take i) ≤ cnts l := by
    intro l
    induction l with
    | nil => intro i; simp
    | cons a r ih =>
      intro i
      cases i with
      | zero => simp [cnts]
      | succ i =>
        have := ih i
        simp only [List.take_succ_cons, cnts]
        omega
  have h3 := h2 p.kids i
  have h4 : (p.kids.take i).length ≤ p.kids.length := by simp; omega
  have h5 : (jnT p i).length = _ := rfl
  unfold jnT at h5 ⊢
  omega
theorem jn_app {a b c : ByteArray} {x y z : List UInt8} (ha : a = ofL x) (hb : b = ofL y) (hc : c = ofL z) : a ++ b ++ c = ofL (x ++ (y ++ z)) := by
  subst ha hb hc
  apply ba_ext
  simp [bsL, ByteArray.data_append]
set_option maxHeartbeats 8000000 in
theorem c39at : ∀ p : Pr, Sm p → Rg p → oneP p = true → p.cnt ≤ 1000 → PC Tryz.prog 39 [aPr p] [] (fun r bx => r = A.str (ofL (txP p)) ∧ bx = []) := by
  refine Pr.by_kids fun p ih hs hr ho hc => ?_
  have hH := oneP_hd ho
  have htx := txP_eq p
  have hlen := hs.len
  refine enter (rs := [.tmp 2]) mx Tryz.func39 Tryz.ntmps39 fun Q0 hQ0 => ?_
  refine sq fun _ _ => ?_
  refine rg (sg ?_)
  refine nx ?_
  refine sq fun _ _ => ?_
  refine sq fun _ _ => ?_
  refine rg (sg ?_)
  refine nx ?_
  refine bl ?_
  refine sq fun _ _ => ?_
  refine rg (sg ?_)
  refine nx ?_
  refine cb (fun g1 => ?_) (fun g1 => ?_)
  · rw [if_pos g1] at htx
    refine sq fun _ _ => ?_
    refine rg (sg ?_)
    refine nx ?_
    refine rt (sg ?_)
    refine f1 (g := sg ?_)
    exact ax [] ⟨by rw [htx]; rfl, rfl⟩
  · rw [if_neg g1] at htx
    refine sq fun _ _ => ?_
    refine rg (sg ?_)
    refine nx ?_
    refine cb (fun g2 => ?_) (fun g2 => ?_)
    · rw [if_pos g2] at htx
      have hcmp : 1 ≤ p.cmp ∧ p.cmp ≤ 6 := by unfold HdP at hH; omega
      have hlo := hr.lo
      have hhi := hr.hi
      have hvs := hs.val
      have hvs1 : p.val.s.size ≤ 1000 := by omega
      have hvl := valS_len p.kind p.val hvs hlo hhi
      have hsl := signL_len p.cmp
      have hcs := hs.col
      have hcl := len_bsL p.col
      refine sq fun _ _ => ?_
      refine dfs (.take 0 <| .take 1 <| .take 2 <| .take 4 <| .take 5 <| .take 6 <| .take 11 <| .take 12 <| .take 13 <| .take 14 <| .two 3 15 (.pure 7 <| .two 8 15 (.pure 9 <| .pure 10 <| .one 15 <| .pure 16 <| .pure 17 <| .nil) (.one 8 <| .pure 9 <| .pure 10 <| .pure 16 <| .pure 17 <| .nil)) (.one 3 <| .pure 7 <| .one 8 <| .pure 9 <| .pure 10 <| .pure 16 <| .pure 17 <| .nil)) [] ?_
      have hwm : IntKind.i64.wrap (p.cmp - 1) = p.cmp - 1 := by rw [IntKind.wrap_i64]; omega
      have he : ([[xS ⟨#[61]⟩], [xS ⟨#[60, 62]⟩], [xS ⟨#[60]⟩], [xS ⟨#[60, 61]⟩], [xS ⟨#[62]⟩], [xS ⟨#[62, 61]⟩]] : List (List L)).getD (IntKind.i64.wrap (p.cmp - 1)).toNat [] = [xS (ofL (signL p.cmp))] := by
        rw [hwm]
        have h6 : p.cmp = 1 ∨ p.cmp = 2 ∨ p.cmp = 3 ∨ p.cmp = 4 ∨ p.cmp = 5 ∨ p.cmp = 6 := by omega
        rcases h6 with h | h | h | h | h | h <;> rw [h] <;> rfl
      have hz1 : (signL p.cmp).toArray.size ≤ 2 := by rw [List.size_toArray]; exact hsl
      have hz2 : (valS p.kind ⟨p.val.nl, p.val.i, p.val.s⟩).toArray.size ≤ 202 := by rw [List.size_toArray]; exact hvl
      have hz3 : (#[32] : Array UInt8).size = 1 := rfl
      refine afs (sg ?_)
      refine afs (sg ?_)
      refine afs (sg ?_)
      refine And.intro (by first | assumption | omega | rfl | trivial) ?_
      refine afs (sg ?_)
      refine afs (sg ?_)
      refine afs (sg ?_)
      refine afs (sg ?_)
      refine afs (sg ?_)
      refine afs (sg ?_)
      refine afs (sg ?_)
      refine afs (sg ?_)
      refine ⟨?_, ?_⟩
      · refine afs (sg ?_)
        refine and_assoc.2 ?_
        refine And.intro (by first | assumption | omega | rfl | trivial) ?_
        refine And.intro (by first | assumption | omega | rfl | trivial) ?_
        refine afs (sg ?_)
        refine and_assoc.2 ?_
        refine And.intro (by first | assumption | omega | rfl | trivial) ?_
        refine ⟨?_, ?_⟩
        · refine afs (sg ?_)
          simp only [go_sem, Nat.reduceAdd, Nat.reduceSub, Nat.reduceMul, Nat.reduceLT, Nat.reduceLeDiff, Nat.reduceEqDiff, reduceIte, reduceCtorEq, if_true, if_false, Int.reduceEq, Int.reduceLT, Int.reduceLE, Int.reduceAdd, Int.reduceSub, Int.reduceMul, Int.reduceNeg, Int.reduceToNat, decide_true, decide_false, Nat.reduceBEq, he, List.take_succ_cons, List.take_zero, List.headD_cons]
          refine And.intro (by first | assumption | omega | rfl | trivial) ?_
          refine afs (sg ?_)
          refine And.intro (by first | assumption | omega | rfl | trivial) ?_
          refine afs (sg ?_)
          refine cl [] (sg ?_)
          refine (c65 _ _ _ _ (by first | assumption | omega | trivial | rfl) (by first | assumption | omega | trivial | rfl) (by first | assumption | omega | trivial | rfl)).mono ?_
          rintro r bx ⟨rfl, rfl⟩
          refine sg ?_
          refine afs (sg ?_)
          refine And.intro (by first | assumption | omega | rfl | trivial) ?_
          refine afs (sg ?_)
          refine afs (sg ?_)
          refine nx ?_
          refine rt (sg ?_)
          refine f1 (g := sg ?_)
          refine ax [] ⟨?_, rfl⟩
          rw [htx]
          exact congrArg A.str (ba_ext (by simp [bsL, ByteArray.data_append]))
        · refine cl [] (sg ?_)
          refine (c65 _ _ _ _ (by first | assumption | omega | trivial | rfl) (by first | assumption | omega | trivial | rfl) (by first | assumption | omega | trivial | rfl)).mono ?_
          rintro r bx ⟨rfl, rfl⟩
          refine sg ?_
          refine afs (sg ?_)
          refine And.intro (by first | assumption | omega | rfl | trivial) ?_
          refine afs (sg ?_)
          simp only [go_sem, Nat.reduceAdd, Nat.reduceSub, Nat.reduceMul, Nat.reduceLT, Nat.reduceLeDiff, Nat.reduceEqDiff, reduceIte, reduceCtorEq, if_true, if_false, Int.reduceEq, Int.reduceLT, Int.reduceLE, Int.reduceAdd, Int.reduceSub, Int.reduceMul, Int.reduceNeg, Int.reduceToNat, decide_true, decide_false, Nat.reduceBEq, he, List.take_succ_cons, List.take_zero, List.headD_cons]
          refine And.intro (by first | assumption | omega | rfl | trivial) ?_
          refine afs (sg ?_)
          refine And.intro (by first | assumption | omega | rfl | trivial) ?_
          refine afs (sg ?_)
          refine And.intro (by first | assumption | omega | rfl | trivial) ?_
          refine afs (sg ?_)
          refine afs (sg ?_)
          refine nx ?_
          refine rt (sg ?_)
          refine f1 (g := sg ?_)
          refine ax [] ⟨?_, rfl⟩
          rw [htx]
          exact congrArg A.str (ba_ext (by simp [bsL, ByteArray.data_append]))
      · refine cl [] (sg ?_)
        refine (c65 _ _ _ _ (by first | assumption | omega | trivial | rfl) (by first | assumption | omega | trivial | rfl) (by first | assumption | omega | trivial | rfl)).mono ?_
        rintro r bx ⟨rfl, rfl⟩
        refine sg ?_
        refine afs (sg ?_)
        refine afs (sg ?_)
        refine and_assoc.2 ?_
        refine And.intro (by first | assumption | omega | rfl | trivial) ?_
        refine And.intro (by first | assumption | omega | rfl | trivial) ?_
        refine afs (sg ?_)
        refine And.intro (by first | assumption | omega | rfl | trivial) ?_
        refine afs (sg ?_)
        simp only [go_sem, Nat.reduceAdd, Nat.reduceSub, Nat.reduceMul, Nat.reduceLT, Nat.reduceLeDiff, Nat.reduceEqDiff, reduceIte, reduceCtorEq, if_true, if_false, Int.reduceEq, Int.reduceLT, Int.reduceLE, Int.reduceAdd, Int.reduceSub, Int.reduceMul, Int.reduceNeg, Int.reduceToNat, decide_true, decide_false, Nat.reduceBEq, he, List.take_succ_cons, List.take_zero, List.headD_cons]
        refine And.intro (by first | assumption | omega | rfl | trivial) ?_
        refine afs (sg ?_)
        refine And.intro (by first | assumption | omega | rfl | trivial) ?_
        refine afs (sg ?_)
        refine And.intro (by first | assumption | omega | rfl | trivial) ?_
        refine afs (sg ?_)
        refine afs (sg ?_)
        refine nx ?_
        refine rt (sg ?_)
        refine f1 (g := sg ?_)
        refine ax [] ⟨?_, rfl⟩
        rw [htx]
        exact congrArg A.str (ba_ext (by simp [bsL, ByteArray.data_append]))
    · rw [if_neg g2] at htx
      refine sq fun _ _ => ?_
      refine rg (sg ?_)
      refine nx ?_
      refine cb (fun g3 => ?_) (fun g3 => ?_)
      · rw [if_pos g3] at htx
        have hcs := hs.col
        have hz8 : #[32, 105, 115, 32, 110, 117, 108, 108].size = 8 := rfl
        refine sq fun _ _ => ?_
        refine rg (sg ?_)
        refine And.intro (by first | assumption | omega | rfl | trivial) ?_
        refine nx ?_
        refine rt (sg ?_)
        refine f1 (g := sg ?_)
        refine ax [] ⟨?_, rfl⟩
        rw [htx]
        exact congrArg A.str (ba_ext (by simp [bsL, ByteArray.data_append]))
      · rw [if_neg g3] at htx
        refine sq fun _ _ => ?_
        refine rg (sg ?_)
        refine nx ?_
        refine cb (fun g4 => ?_) (fun g4 => ?_)
        · rw [if_pos g4] at htx
          have hcs := hs.col
          have hps := hs.pat
          have hps1 : p.pat.size ≤ 1000 := by omega
          have hqs : (quoS p.pat).size ≤ 202 := quoS_len p.pat hps
          refine sq fun _ _ => ?_
          refine dr [.take 0, .take 1, .take 2, .take 3, .take 4, .one 5, .pure 6, .pure 7] [] (sg ?_)
          refine And.intro (by simp; omega) ?_
          refine cl [] (sg ?_)
          refine (c66 _ (by first | assumption | omega | trivial | rfl)).mono ?_
          rintro r bx ⟨rfl, rfl⟩
          refine sg ?_
          refine And.intro (by simp; omega) ?_
          refine nx ?_
          refine rt (sg ?_)
          refine f1 (g := sg ?_)
          refine ax [] ⟨?_, rfl⟩
          rw [htx]
          exact congrArg A.str (ba_ext (by simp [bsL, ByteArray.data_append]))
        · rw [if_neg g4] at htx
          refine sq fun _ _ => ?_
          refine rg (sg ?_)
          refine nx ?_
          refine cb (fun g5 => ?_) (fun g5 => ?_)
          · have hl1 : p.kids.length = 1 := by unfold HdP at hH; omega
            have hee := el_at (f := cPr) (l := p.kids) (i := 0) (by omega)
            have hk0 : p.kids[0] ∈ p.kids := List.getElem_mem _
            have hkc := cnt_kid hk0
            have hkl := txP_len p.kids[0] (hs.kid _ hk0) (hr.kid _ hk0)
            have hkH := oneP_hd (oneP_kid ho _ hk0)
            have hko : p.kids[0].op ≤ 7 := by unfold HdP at hkH; omega
            have hz1 : (ofL (txP p.kids[0])).size ≤ 1000000 := by rw [sz_ofL]; omega
            have htx2 : txP p = ([110, 111, 116, 32] : List UInt8) ++ (if p.kids[0].op = 6 ∨ p.kids[0].op = 7 then (40 : UInt8) :: (txP p.kids[0] ++ [41]) else txP p.kids[0]) := by
              have hm : p.kids.map (fun k => parL p.op k.op (txP k)) = [parL p.op p.kids[0].op (txP p.kids[0])] := by
                obtain ⟨k, hk⟩ := List.length_eq_one_iff.1 hl1
                simp [hk]
              rw [htx, if_pos g5, par5 p.op g5 p.kids[0].op hko, hm, Lib.join_one]
            refine sq fun _ _ => ?_
            refine rg (sg ?_)
            refine And.intro (by first | assumption | omega | rfl | trivial) ?_
            refine cl [] (sg ?_)
            simp (disch := omega) only [el_at]
            refine sg ?_
            refine (ih _ hk0 (hs.kid _ hk0) (hr.kid _ hk0) (oneP_kid ho _ hk0) (by omega)).mono ?_
            rintro r bx ⟨rfl, rfl⟩
            refine sg ?_
            refine nx ?_
            refine sq fun _ _ => ?_
            refine sq fun _ _ => ?_
            refine rg (sg ?_)
            refine And.intro (by first | assumption | omega | rfl | trivial) ?_
            simp (disch := omega) only [el_at]
            refine sg ?_
            refine nx ?_
            refine cb (fun g6 => ?_) (fun g6 => ?_)
            · rw [if_pos (by omega)] at htx2
              have hz3 : (⟨#[40]⟩ ++ ofL (txP p.kids[0])).size ≤ 2000000 := by rw [ByteArray.size_append]; have : (⟨#[40]⟩ : ByteArray).size = 1 := rfl; omega
              have hz4 : (⟨#[40]⟩ ++ ofL (txP p.kids[0]) ++ ⟨#[41]⟩).size ≤ 2000001 := by rw [ByteArray.size_append]; have : (⟨#[41]⟩ : ByteArray).size = 1 := rfl; omega
              refine rg (sg ?_)
              refine And.intro (by simp; omega) ?_
              refine And.intro (by simp; omega) ?_
              refine nx ?_
              refine sq fun _ _ => ?_
              refine rg (sg ?_)
              refine And.intro (by simp; omega) ?_
              refine nx ?_
              refine rt (sg ?_)
              refine f1 (g := sg ?_)
              refine ax [] ⟨?_, rfl⟩
              rw [htx2]
              exact congrArg A.str (ba_ext (by simp [bsL, ByteArray.data_append]))
            · rw [if_neg (by omega)] at htx2
              refine sk (sg ?_)
              refine nx ?_
              refine sq fun _ _ => ?_
              refine rg (sg ?_)
              refine And.intro (by simp; omega) ?_
              refine nx ?_
              refine rt (sg ?_)
              refine f1 (g := sg ?_)
              refine ax [] ⟨?_, rfl⟩
              rw [htx2]
              exact congrArg A.str (ba_ext (by simp [bsL, ByteArray.data_append]))
          · refine sk (sg ?_)
            refine nx ?_
            refine sq fun _ _ => ?_
            refine rg (sg ?_)
            refine nx ?_
            refine sq fun _ _ => ?_
            refine sq fun _ _ => ?_
            refine rg (sg ?_)
            refine nx ?_
            refine bl ?_
            have hop : p.op = 6 ∨ p.op = 7 := by unfold HdP at hH; omega
            have h5n : p.op ≠ 5 := g5
            have htl := txP_len p hs hr
            rw [if_neg h5n, List.nil_append, ← jnT_all] at htx
            refine lp [1, 4, 5] [0] (fun k σ => ∃ i : Nat, k = p.kids.length - i ∧ i ≤ p.kids.length ∧ σ = ⟨112, 0, [(1, xPtr 0 0), (4, A.str (ofL (jnT p i))), (5, A.int .i64 i)], [.var [xI p.op, xS p.col, xI p.cmp, xB p.val.nl, xI p.val.i, xS p.val.s, xI p.kind, xS p.pat, .c (.sl p.kids.length 9 (elemsOf (p.kids.map cPr)))] 27]⟩) p.kids.length ?_ ?_
            · refine ⟨0, by omega, by omega, ?_⟩
              rw [jnT_0]
              exact keq
            · rintro k σ' ⟨i, hk, hi, rfl⟩ Q1 hQ1
              refine sq fun _ _ => ?_
              refine sq fun _ _ => ?_
              refine rg (sg ?_)
              refine nx ?_
              refine cb (fun hlt => ?_) (fun hlt => ?_)
              · have hin : i < p.kids.length := by omega
                have hwi : IntKind.i64.wrap ((i : Int) + 1) = ((i + 1 : Nat) : Int) := wrap_succ (by omega)
                have hee := el_at (f := cPr) hin
                have hki : p.kids[i] ∈ p.kids := List.getElem_mem hin
                have hkc := cnt_kid hki
                have hkl := txP_len p.kids[i] (hs.kid _ hki) (hr.kid _ hki)
                have hjs := jnT_succ p i hin
                have hjl := jnT_len p hs hr i
                have hce := cnt_eq p
                have hz1 : (ofL (txP p.kids[i])).size ≤ 1000000 := by rw [sz_ofL]; omega
                have hz2 : (ofL (jnT p i)).size ≤ 1000000 := by rw [sz_ofL]; omega
                refine sk (sg ?_)
                refine nx ?_
                refine sq fun _ _ => ?_
                refine bl ?_
                refine sq fun _ _ => ?_
                refine rg (sg ?_)
                refine and_assoc.2 ?_
                refine And.intro (by first | assumption | omega | rfl | trivial) ?_
                refine And.intro (by first | assumption | omega | rfl | trivial) ?_
                refine cl [] (sg ?_)
                simp (disch := omega) only [el_at]
                refine sg ?_
                refine (ih _ hki (hs.kid _ hki) (hr.kid _ hki) (oneP_kid ho _ hki) (by omega)).mono ?_
                rintro r bx ⟨rfl, rfl⟩
                refine sg ?_
                have hpl := parL_len p.op p.kids[i].op (txP p.kids[i])
                refine nx ?_
                refine sq fun _ _ => ?_
                refine sq fun _ _ => ?_
                refine rg (sg ?_)
                refine And.intro (by first | assumption | omega | rfl | trivial) ?_
                simp (disch := omega) only [el_at]
                refine sg ?_
                refine nx ?_
                refine cb (fun g7 => ?_) (fun g7 => ?_)
                · have hPar : (40 : UInt8) :: (txP p.kids[i] ++ [41]) = parL p.op p.kids[i].op (txP p.kids[i]) := by
                    unfold parL
                    rw [if_pos (.inr g7)]
                  have hz3 : (⟨#[40]⟩ ++ ofL (txP p.kids[i])).size ≤ 2000000 := by rw [ByteArray.size_append]; have : (⟨#[40]⟩ : ByteArray).size = 1 := rfl; omega
                  have hz4 : (⟨#[40]⟩ ++ ofL (txP p.kids[i]) ++ ⟨#[41]⟩).size ≤ 2000001 := by rw [ByteArray.size_append]; have : (⟨#[41]⟩ : ByteArray).size = 1 := rfl; omega
                  refine rg (sg ?_)
                  refine And.intro (by simp; omega) ?_
                  refine And.intro (by simp; omega) ?_
                  refine nx ?_
                  refine sq fun _ _ => ?_
                  refine sq fun _ _ => ?_
                  refine rg (sg ?_)
                  refine nx ?_
                  rw [par_app, hPar]
                  generalize parL p.op p.kids[i].op (txP p.kids[i]) = P at hjs hpl ⊢
                  have hzP : (ofL P).size ≤ 1000010 := by rw [sz_ofL]; omega
                  have hzA : (ofL (jnT p i) ++ ⟨#[32, 97, 110, 100, 32]⟩).size ≤ 1000010 := by rw [ByteArray.size_append]; have : (⟨#[32, 97, 110, 100, 32]⟩ : ByteArray).size = 5 := rfl; omega
                  have hzO : (ofL (jnT p i) ++ ⟨#[32, 111, 114, 32]⟩).size ≤ 1000010 := by rw [ByteArray.size_append]; have : (⟨#[32, 111, 114, 32]⟩ : ByteArray).size = 4 := rfl; omega
                  refine cb (fun g8 => ?_) (fun g8 => ?_)
                  · have g9 : 0 < i ∧ p.op = 6 := by
                      omega
                    have hsp : sepL p.op = [32, 97, 110, 100, 32] := by unfold sepL; rw [if_pos g9.2]
                    have hj2 : ofL (jnT p i) ++ ⟨#[32, 97, 110, 100, 32]⟩ ++ ofL P = ofL (jnT p (i + 1)) := by rw [hjs, if_neg (by omega), hsp]; exact jn_app rfl rfl rfl
                    refine rg (sg ?_)
                    refine And.intro (by simp; omega) ?_
                    refine nx ?_
                    refine sq fun _ _ => ?_
                    refine sq fun _ _ => ?_
                    refine rg (sg ?_)
                    refine nx ?_
                    refine cb (fun g10 => ?_) (fun g10 => ?_)
                    · exfalso
                      omega
                    · refine sk (sg ?_)
                      refine nx ?_
                      refine rg (sg ?_)
                      refine And.intro (by simp; omega) ?_
                      refine nx ?_
                      refine rg (sg ?_)
                      simp (disch := omega) only [wrap_succ]
                      rw [hj2]
                      refine ln (p.kids.length - (i + 1)) [0] ?_ ?_
                      · omega
                      exact ⟨i + 1, by omega, by omega, keq⟩
                  · refine sk (sg ?_)
                    refine nx ?_
                    refine sq fun _ _ => ?_
                    refine sq fun _ _ => ?_
                    refine rg (sg ?_)
                    refine nx ?_
                    refine cb (fun g9 => ?_) (fun g9 => ?_)
                    · have g9 : 0 < i ∧ p.op = 7 := by
                        omega
                      have hsp : sepL p.op = [32, 111, 114, 32] := by unfold sepL; rw [if_neg (by omega)]
                      have hj2 : ofL (jnT p i) ++ ⟨#[32, 111, 114, 32]⟩ ++ ofL P = ofL (jnT p (i + 1)) := by rw [hjs, if_neg (by omega), hsp]; exact jn_app rfl rfl rfl
                      refine rg (sg ?_)
                      refine And.intro (by first | assumption | omega | rfl | trivial) ?_
                      refine nx ?_
                      refine rg (sg ?_)
                      refine And.intro (by first | assumption | omega | rfl | trivial) ?_
                      refine nx ?_
                      refine rg (sg ?_)
                      simp (disch := omega) only [wrap_succ]
                      rw [hj2]
                      refine ln (p.kids.length - (i + 1)) [0] ?_ ?_
                      · omega
                      exact ⟨i + 1, by omega, by omega, keq⟩
                    · have hi0 : i = 0 := by
                        omega
                      have hj2 : ofL (jnT p i) ++ ofL P = ofL (jnT p (i + 1)) := by
                        rw [hjs, if_pos hi0, hi0, jnT_0]
                        exact ba_ext (by simp [bsL, ByteArray.data_append])
                      refine sk (sg ?_)
                      refine nx ?_
                      refine rg (sg ?_)
                      refine And.intro (by simp; omega) ?_
                      refine nx ?_
                      refine rg (sg ?_)
                      simp (disch := omega) only [wrap_succ]
                      rw [hj2]
                      refine ln (p.kids.length - (i + 1)) [0] ?_ ?_
                      · omega
                      exact ⟨i + 1, by omega, by omega, keq⟩
                · have hPar : txP p.kids[i] = parL p.op p.kids[i].op (txP p.kids[i]) := by
                    unfold parL
                    rw [if_neg (by omega)]
                  refine sk (sg ?_)
                  refine nx ?_
                  refine sq fun _ _ => ?_
                  refine sq fun _ _ => ?_
                  refine rg (sg ?_)
                  refine nx ?_
                  rw [congrArg ofL hPar]
                  generalize parL p.op p.kids[i].op (txP p.kids[i]) = P at hjs hpl ⊢
                  have hzP : (ofL P).size ≤ 1000010 := by rw [sz_ofL]; omega
                  have hzA : (ofL (jnT p i) ++ ⟨#[32, 97, 110, 100, 32]⟩).size ≤ 1000010 := by rw [ByteArray.size_append]; have : (⟨#[32, 97, 110, 100, 32]⟩ : ByteArray).size = 5 := rfl; omega
                  have hzO : (ofL (jnT p i) ++ ⟨#[32, 111, 114, 32]⟩).size ≤ 1000010 := by rw [ByteArray.size_append]; have : (⟨#[32, 111, 114, 32]⟩ : ByteArray).size = 4 := rfl; omega
                  refine cb (fun g8 => ?_) (fun g8 => ?_)
                  · have g9 : 0 < i ∧ p.op = 6 := by
                      omega
                    have hsp : sepL p.op = [32, 97, 110, 100, 32] := by unfold sepL; rw [if_pos g9.2]
                    have hj2 : ofL (jnT p i) ++ ⟨#[32, 97, 110, 100, 32]⟩ ++ ofL P = ofL (jnT p (i + 1)) := by rw [hjs, if_neg (by omega), hsp]; exact jn_app rfl rfl rfl
                    refine rg (sg ?_)
                    refine And.intro (by simp; omega) ?_
                    refine nx ?_
                    refine sq fun _ _ => ?_
                    refine sq fun _ _ => ?_
                    refine rg (sg ?_)
                    refine nx ?_
                    refine cb (fun g10 => ?_) (fun g10 => ?_)
                    · exfalso
                      omega
                    · refine sk (sg ?_)
                      refine nx ?_
                      refine rg (sg ?_)
                      refine And.intro (by simp; omega) ?_
                      refine nx ?_
                      refine rg (sg ?_)
                      simp (disch := omega) only [wrap_succ]
                      rw [hj2]
                      refine ln (p.kids.length - (i + 1)) [0] ?_ ?_
                      · omega
                      exact ⟨i + 1, by omega, by omega, keq⟩
                  · refine sk (sg ?_)
                    refine nx ?_
                    refine sq fun _ _ => ?_
                    refine sq fun _ _ => ?_
                    refine rg (sg ?_)
                    refine nx ?_
                    refine cb (fun g9 => ?_) (fun g9 => ?_)
                    · have g9 : 0 < i ∧ p.op = 7 := by
                        omega
                      have hsp : sepL p.op = [32, 111, 114, 32] := by unfold sepL; rw [if_neg (by omega)]
                      have hj2 : ofL (jnT p i) ++ ⟨#[32, 111, 114, 32]⟩ ++ ofL P = ofL (jnT p (i + 1)) := by rw [hjs, if_neg (by omega), hsp]; exact jn_app rfl rfl rfl
                      refine rg (sg ?_)
                      refine And.intro (by simp; omega) ?_
                      refine nx ?_
                      refine rg (sg ?_)
                      refine And.intro (by simp; omega) ?_
                      refine nx ?_
                      refine rg (sg ?_)
                      simp (disch := omega) only [wrap_succ]
                      rw [hj2]
                      refine ln (p.kids.length - (i + 1)) [0] ?_ ?_
                      · omega
                      exact ⟨i + 1, by omega, by omega, keq⟩
                    · have hi0 : i = 0 := by
                        omega
                      have hj2 : ofL (jnT p i) ++ ofL P = ofL (jnT p (i + 1)) := by
                        rw [hjs, if_pos hi0, hi0, jnT_0]
                        exact ba_ext (by simp [bsL, ByteArray.data_append])
                      refine sk (sg ?_)
                      refine nx ?_
                      refine rg (sg ?_)
                      refine And.intro (by simp; omega) ?_
                      refine nx ?_
                      refine rg (sg ?_)
                      simp (disch := omega) only [wrap_succ]
                      rw [hj2]
                      refine ln (p.kids.length - (i + 1)) [0] ?_ ?_
                      · omega
                      exact ⟨i + 1, by omega, by omega, keq⟩
              · have hie : i = p.kids.length := by omega
                subst hie
                refine xt (sg ?_)
                refine lx (g := sg ?_)
                refine nx ?_
                refine sq fun _ _ => ?_
                refine rg (sg ?_)
                refine nx ?_
                refine rt ?_
                refine f1 (g := sg ?_)
                exact ax [] ⟨by rw [htx]; rfl, rfl⟩
theorem c18 (p : Pr) (hp : Sm p) (hr : Rg p) : PC Tryz.prog 18 [aPr p] [] (fun r bx => r = A.str (if mayP p then ofL (txP p) else ⟨#[]⟩) ∧ bx = []) := by
  refine enter (rs := [.tmp 2]) mx Tryz.func18 Tryz.ntmps18 fun Q0 hQ0 => ?_
  refine sq fun _ _ => ?_
  refine rg (sg ?_)
  refine nx ?_
  refine sq fun _ _ => ?_
  refine sq fun _ _ => ?_
  refine rg (sg ?_)
  refine cl [] (sg ?_)
  refine (c25 _ (by first | assumption | omega | trivial | rfl)).mono ?_
  rintro r bx ⟨rfl, rfl⟩
  refine sg ?_
  refine nx ?_
  refine cb (fun h1 => ?_) (fun h1 => ?_)
  · refine sq fun _ _ => ?_
    refine rg (sg ?_)
    refine nx ?_
    refine rt (sg ?_)
    refine f1 (g := sg ?_)
    exact ax [] ⟨by rw [h1]; rfl, rfl⟩
  · rw [Bool.not_eq_false] at h1
    obtain ⟨hc, -, ho⟩ := sz_cnt h1
    refine sk (sg ?_)
    refine nx ?_
    refine sq fun _ _ => ?_
    refine rg (sg ?_)
    refine cl [] (sg ?_)
    refine (c39at p hp hr ho (by omega)).mono ?_
    rintro r bx ⟨rfl, rfl⟩
    refine sg ?_
    refine nx ?_
    refine rt ?_
    refine f1 (g := sg ?_)
    exact ax [] ⟨by rw [h1]; rfl, rfl⟩
end
section
set_option maxRecDepth 100000
/-! The law's own text of a query. -/
theorem c17at (a : Ae) (ha : aggB a = true) (hc : a.col.size ≤ 1000) : PC Tryz.prog 17 [aAe a] [] (fun r bx => r = A.str (ofL (toldL a)) ∧ bx = []) := by
  have ho : a.op = 1 ∨ a.op = 2 ∨ a.op = 3 ∨ a.op = 4 ∨ a.op = 5 := by
    by_cases h1 : a.op = 1
    · exact .inl h1
    · rw [aggB_n h1, Bool.and_eq_true, decide_eq_true_eq] at ha
      omega
  obtain ⟨o, c⟩ := a
  dsimp only at ho hc
  have z5 : (#[41] : Array UInt8).size = 1 := rfl
  have z6 : (#[40] : Array UInt8).size = 1 := rfl
  have z1 : (#[104, 97, 115] : Array UInt8).size = 3 := rfl
  have z2 : (#[115, 117, 109] : Array UInt8).size = 3 := rfl
  have z3 : (#[109, 105, 110] : Array UInt8).size = 3 := rfl
  have z4 : (#[109, 97, 120] : Array UInt8).size = 3 := rfl
  rcases ho with rfl | rfl | rfl | rfl | rfl
  · refine enter (rs := [.tmp 2]) mx Tryz.func17 Tryz.ntmps17 fun Q0 hQ0 => ?_
    refine sq fun _ _ => ?_
    refine rg (sg ?_)
    refine nx ?_
    refine sq fun _ _ => ?_
    refine sq fun _ _ => ?_
    refine rg (sg ?_)
    refine nx ?_
    refine ct (hx := ?_)
    refine sq fun _ _ => ?_
    refine rg (sg ?_)
    refine nx ?_
    refine rt (sg ?_)
    refine f1 (g := sg ?_)
    exact ax [] ⟨rfl, rfl⟩
  · refine enter (rs := [.tmp 2]) mx Tryz.func17 Tryz.ntmps17 fun Q0 hQ0 => ?_
    have he : ([[xS ⟨#[104, 97, 115]⟩], [xS ⟨#[115, 117, 109]⟩], [xS ⟨#[109, 105, 110]⟩], [xS ⟨#[109, 97, 120]⟩]] : List (List L)).getD (IntKind.i64.wrap 0).toNat [] = [xS ⟨#[104, 97, 115]⟩] := rfl
    refine sq fun _ _ => ?_
    refine rg (sg ?_)
    refine nx ?_
    refine sq fun _ _ => ?_
    refine sq fun _ _ => ?_
    refine rg (sg ?_)
    refine nx ?_
    refine cf (hy := ?_)
    refine sk (sg ?_)
    refine nx ?_
    refine sq fun _ _ => ?_
    refine dr [.take 1, .take 2, .take 3, .take 7, .take 8, .one 0, .pure 4, .one 5, .pure 6, .pure 9, .pure 10, .pure 11] [] (sg ?_)
    refine and_assoc.2 ?_
    refine And.intro (by first | assumption | omega | rfl | trivial) ?_
    refine And.intro (by first | assumption | omega | rfl | trivial) ?_
    refine And.intro (by first | assumption | omega | rfl | trivial) ?_
    refine And.intro (by first | assumption | omega | rfl | trivial) ?_
    simp only [go_sem, Nat.reduceAdd, Nat.reduceSub, Nat.reduceMul, Nat.reduceLT, Nat.reduceLeDiff, Nat.reduceEqDiff, reduceIte, reduceCtorEq, if_true, if_false, Int.reduceEq, Int.reduceLT, Int.reduceLE, Int.reduceAdd, Int.reduceSub, Int.reduceMul, Int.reduceNeg, Int.reduceToNat, decide_true, decide_false, Nat.reduceBEq, he, List.take_succ_cons, List.take_zero, List.headD_cons]
    refine And.intro (by first | assumption | omega | rfl | trivial) ?_
    refine And.intro (by first | assumption | omega | rfl | trivial) ?_
    refine nx ?_
    refine rt ?_
    refine f1 (g := sg ?_)
    refine ax [] ⟨congrArg A.str ?_, rfl⟩
    exact ba_ext (by simp [bsL, ByteArray.data_append, toldL, toldW, ofL])
  · refine enter (rs := [.tmp 2]) mx Tryz.func17 Tryz.ntmps17 fun Q0 hQ0 => ?_
    have he : ([[xS ⟨#[104, 97, 115]⟩], [xS ⟨#[115, 117, 109]⟩], [xS ⟨#[109, 105, 110]⟩], [xS ⟨#[109, 97, 120]⟩]] : List (List L)).getD (IntKind.i64.wrap 1).toNat [] = [xS ⟨#[115, 117, 109]⟩] := rfl
    refine sq fun _ _ => ?_
    refine rg (sg ?_)
    refine nx ?_
    refine sq fun _ _ => ?_
    refine sq fun _ _ => ?_
    refine rg (sg ?_)
    refine nx ?_
    refine cf (hy := ?_)
    refine sk (sg ?_)
    refine nx ?_
    refine sq fun _ _ => ?_
    refine dr [.take 1, .take 2, .take 3, .take 7, .take 8, .one 0, .pure 4, .one 5, .pure 6, .pure 9, .pure 10, .pure 11] [] (sg ?_)
    refine and_assoc.2 ?_
    refine And.intro (by first | assumption | omega | rfl | trivial) ?_
    refine And.intro (by first | assumption | omega | rfl | trivial) ?_
    refine And.intro (by first | assumption | omega | rfl | trivial) ?_
    refine And.intro (by first | assumption | omega | rfl | trivial) ?_
    simp only [go_sem, Nat.reduceAdd, Nat.reduceSub, Nat.reduceMul, Nat.reduceLT, Nat.reduceLeDiff, Nat.reduceEqDiff, reduceIte, reduceCtorEq, if_true, if_false, Int.reduceEq, Int.reduceLT, Int.reduceLE, Int.reduceAdd, Int.reduceSub, Int.reduceMul, Int.reduceNeg, Int.reduceToNat, decide_true, decide_false, Nat.reduceBEq, he, List.take_succ_cons, List.take_zero, List.headD_cons]
    refine And.intro (by first | assumption | omega | rfl | trivial) ?_
    refine And.intro (by first | assumption | omega | rfl | trivial) ?_
    refine nx ?_
    refine rt ?_
    refine f1 (g := sg ?_)
    refine ax [] ⟨congrArg A.str ?_, rfl⟩
    exact ba_ext (by simp [bsL, ByteArray.data_append, toldL, toldW, ofL])
  · refine enter (rs := [.tmp 2]) mx Tryz.func17 Tryz.ntmps17 fun Q0 hQ0 => ?_
    have he : ([[xS ⟨#[104, 97, 115]⟩], [xS ⟨#[115, 117, 109]⟩], [xS ⟨#[109, 105, 110]⟩], [xS ⟨#[109, 97, 120]⟩]] : List (List L)).getD (IntKind.i64.wrap 2).toNat [] = [xS ⟨#[109, 105, 110]⟩] := rfl
    refine sq fun _ _ => ?_
    refine rg (sg ?_)
    refine nx ?_
    refine sq fun _ _ => ?_
    refine sq fun _ _ => ?_
    refine rg (sg ?_)
    refine nx ?_
    refine cf (hy := ?_)
    refine sk (sg ?_)
    refine nx ?_
    refine sq fun _ _ => ?_
    refine dr [.take 1, .take 2, .take 3, .take 7, .take 8, .one 0, .pure 4, .one 5, .pure 6, .pure 9, .pure 10, .pure 11] [] (sg ?_)
    refine and_assoc.2 ?_
    refine And.intro (by first | assumption | omega | rfl | trivial) ?_
    refine And.intro (by first | assumption | omega | rfl | trivial) ?_
    refine And.intro (by first | assumption | omega | rfl | trivial) ?_
    refine And.intro (by first | assumption | omega | rfl | trivial) ?_
    simp only [go_sem, Nat.reduceAdd, Nat.reduceSub, Nat.reduceMul, Nat.reduceLT, Nat.reduceLeDiff, Nat.reduceEqDiff, reduceIte, reduceCtorEq, if_true, if_false, Int.reduceEq, Int.reduceLT, Int.reduceLE, Int.reduceAdd, Int.reduceSub, Int.reduceMul, Int.reduceNeg, Int.reduceToNat, decide_true, decide_false, Nat.reduceBEq, he, List.take_succ_cons, List.take_zero, List.headD_cons]
    refine And.intro (by first | assumption | omega | rfl | trivial) ?_
    refine And.intro (by first | assumption | omega | rfl | trivial) ?_
    refine nx ?_
    refine rt ?_
    refine f1 (g := sg ?_)
    refine ax [] ⟨congrArg A.str ?_, rfl⟩
    exact ba_ext (by simp [bsL, ByteArray.data_append, toldL, toldW, ofL])
  · refine enter (rs := [.tmp 2]) mx Tryz.func17 Tryz.ntmps17 fun Q0 hQ0 => ?_
    have he : ([[xS ⟨#[104, 97, 115]⟩], [xS ⟨#[115, 117, 109]⟩], [xS ⟨#[109, 105, 110]⟩], [xS ⟨#[109, 97, 120]⟩]] : List (List L)).getD (IntKind.i64.wrap 3).toNat [] = [xS ⟨#[109, 97, 120]⟩] := rfl
    refine sq fun _ _ => ?_
    refine rg (sg ?_)
    refine nx ?_
    refine sq fun _ _ => ?_
    refine sq fun _ _ => ?_
    refine rg (sg ?_)
    refine nx ?_
    refine cf (hy := ?_)
    refine sk (sg ?_)
    refine nx ?_
    refine sq fun _ _ => ?_
    refine dr [.take 1, .take 2, .take 3, .take 7, .take 8, .one 0, .pure 4, .one 5, .pure 6, .pure 9, .pure 10, .pure 11] [] (sg ?_)
    refine and_assoc.2 ?_
    refine And.intro (by first | assumption | omega | rfl | trivial) ?_
    refine And.intro (by first | assumption | omega | rfl | trivial) ?_
    refine And.intro (by first | assumption | omega | rfl | trivial) ?_
    refine And.intro (by first | assumption | omega | rfl | trivial) ?_
    simp only [go_sem, Nat.reduceAdd, Nat.reduceSub, Nat.reduceMul, Nat.reduceLT, Nat.reduceLeDiff, Nat.reduceEqDiff, reduceIte, reduceCtorEq, if_true, if_false, Int.reduceEq, Int.reduceLT, Int.reduceLE, Int.reduceAdd, Int.reduceSub, Int.reduceMul, Int.reduceNeg, Int.reduceToNat, decide_true, decide_false, Nat.reduceBEq, he, List.take_succ_cons, List.take_zero, List.headD_cons]
    refine And.intro (by first | assumption | omega | rfl | trivial) ?_
    refine And.intro (by first | assumption | omega | rfl | trivial) ?_
    refine nx ?_
    refine rt ?_
    refine f1 (g := sg ?_)
    refine ax [] ⟨congrArg A.str ?_, rfl⟩
    exact ba_ext (by simp [bsL, ByteArray.data_append, toldL, toldW, ofL])
theorem row_list {α : Type} (l : List α) (f : α → List C) (sz : Nat) (h : ∀ x, (f x).length = sz) : rowList l.length sz (elemsOf (l.map f)) = l.map fun x => lc (f x) := by
  apply List.ext_getElem
  · simp [rowList]
  · intro i h1 h2
    have hi : i < l.length := by simpa using h2
    simp only [rowList, List.getElem_map, List.getElem_range]
    have he := el_at (f := f) hi
    apply List.ext_getElem
    · simp [lc, h]
    · intro j h3 h4
      simp only [List.getElem_map, List.getElem_range, lc]
      rw [he]
      have hj : j < (f l[i]).length := by simpa [lc] using h4
      unfold el
      rw [List.getD_eq_getElem?_getD, List.getElem?_eq_getElem hj]
      rfl
/-- The words that are asked for, put together one by one. -/
def jnQ (q : Qu) (i : Nat) : List UInt8 := Lib.join ((askL q).take i) [44, 32]
theorem jnQ_0 (q : Qu) : jnQ q 0 = [] := by
  unfold jnQ
  rw [List.take_zero, Lib.join_nil]
theorem jnQ_succ (q : Qu) (i : Nat) (h : i < (askB q).length) : jnQ q (i + 1) = if i = 0 then bsL (askB q)[i] else jnQ q i ++ ([44, 32] ++ bsL (askB q)[i]) := by
  have hl : (askL q).length = (askB q).length := by rw [← askB_bs, List.length_map]
  have hi : i < (askL q).length := by omega
  have hg : (askL q)[i] = bsL (askB q)[i] := by simp only [← askB_bs, List.getElem_map]
  unfold jnQ
  rw [List.take_add_one, List.getElem?_eq_getElem hi, hg]
  show Lib.join (_ ++ [_]) _ = _
  rw [join_snoc]
  by_cases h0 : i = 0
  · subst h0
    rw [List.take_zero, if_pos rfl, if_pos rfl]
  · rw [if_neg h0, if_neg]
    intro h2
    have h3 := congrArg List.length h2
    simp only [List.length_take, List.length_nil] at h3
    omega
theorem jnQ_all (q : Qu) (h : askB q ≠ []) : jnQ q (askB q).length = askT q := by
  have hl : (askL q).length = (askB q).length := by rw [← askB_bs, List.length_map]
  unfold jnQ askT
  rw [← hl, List.take_length, if_neg]
  intro e
  rw [e] at hl
  exact h (List.eq_nil_of_length_eq_zero hl.symm)
theorem jnQ_len (q : Qu) (hq : SmQ q) (i : Nat) : (jnQ q i).length ≤ 4000 := by
  have h1 : ∀ x ∈ (askL q).take i, x.length ≤ 105 := by
    intro x hx
    have hx2 := List.mem_of_mem_take hx
    rw [← askB_bs] at hx2
    obtain ⟨y, hy, rfl⟩ := List.mem_map.1 hx2
    exact askB_size hq y hy
  have h2 := join_len _ [44, 32] 105 h1
  have h3 : ((askL q).take i).length ≤ 30 := by
    have hl : (askL q).length = (askB q).length := by rw [← askB_bs, List.length_map]
    have h4 := askB_len hq
    rw [List.length_take]
    omega
  have h5 : ([44, 32] : List UInt8).length = 2 := rfl
  rw [h5] at h2
  unfold jnQ
  omega
theorem cell_str (l : List ByteArray) : allCell (l.map fun x => lc (cSt x)) := by
  intro e he
  obtain ⟨x, -, rfl⟩ := List.mem_map.1 he
  rfl
set_option maxHeartbeats 16000000 in
theorem c8 (q : Qu) (hq : SmQ q) (hr : Rg q.whr) : PC Tryz.prog 8 [aQu q] [] (fun r bx => r = A.str (if mayQ q then ofL (txQ q) else ⟨#[]⟩) ∧ bx = []) := by
  have hw := hq.whr
  have htb := hq.table
  have hby := hq.by_
  have hcl : q.cols.length ≤ 1000 := Nat.le_trans hq.cols (by omega)
  have hal : q.aggs.length ≤ 1000 := Nat.le_trans hq.aggs (by omega)
  have hrl := row_list q.cols cSt 1 (fun _ => rfl)
  refine enter (rs := [.tmp 2]) mx Tryz.func8 Tryz.ntmps8 fun Q0 hQ0 => ?_
  refine sq fun _ _ => ?_
  refine rg (sg ?_)
  refine nx ?_
  refine sq fun _ _ => ?_
  refine sq fun _ _ => ?_
  refine rg (sg ?_)
  refine cl [] (sg ?_)
  refine (c11 _ (by first | assumption | omega | trivial | rfl)).mono ?_
  rintro r bx ⟨rfl, rfl⟩
  refine sg ?_
  refine nx ?_
  refine cb (fun h1 => ?_) (fun h1 => ?_)
  · refine sq fun _ _ => ?_
    refine rg (sg ?_)
    refine nx ?_
    refine rt (sg ?_)
    refine f1 (g := sg ?_)
    exact ax [] ⟨by rw [h1]; rfl, rfl⟩
  · rw [Bool.not_eq_false] at h1
    rw [h1, if_pos rfl] at hQ0
    have hm := mayQ_whr h1
    have hpl := txP_len q.whr hw hr
    have hpc := (sz_cnt hm).1
    have hac := cell_str q.cols
    have hag : ∀ a ∈ q.aggs, aggB a = true := by
      rcases mayQ_ask h1 with ⟨h0, -⟩ | ⟨-, -, -, h0, -⟩
      · intro a ha
        rw [h0] at ha
        cases ha
      · exact h0
    refine sk (sg ?_)
    refine nx ?_
    refine sq fun _ _ => ?_
    refine rg (sg ?_)
    simp only [hrl, List.length_map]
    refine And.intro (by first | assumption | omega | rfl | trivial) ?_
    refine And.intro (by first | assumption | omega | rfl | trivial) ?_
    refine And.intro (by simp only [maxLen]; omega) ?_
    refine nx ?_
    refine sq fun _ _ => ?_
    refine sq fun _ _ => ?_
    refine rg (sg ?_)
    refine nx ?_
    refine bl ?_
    refine lp [1, 3, 4] [0, 2] (fun k σ => ∃ i : Nat, k = q.aggs.length - i ∧ i ≤ q.aggs.length ∧ σ = ⟨75, 0, [(1, xPtr 0 0), (3, xOwn 1 1 0 (askP q i).length), (4, A.int .i64 i)], [boxQ q, arS (askP q i)]⟩) q.aggs.length ?_ ?_
    · refine ⟨0, by omega, by omega, ?_⟩
      simp only [go_sem, Nat.reduceAdd, Nat.reduceSub, Nat.reduceMul, Nat.reduceLT, Nat.reduceLeDiff, Nat.reduceEqDiff, reduceIte, reduceCtorEq, if_true, if_false, Int.reduceEq, Int.reduceLT, Int.reduceLE, Int.reduceAdd, Int.reduceSub, Int.reduceMul, Int.reduceNeg, Int.reduceToNat, decide_true, decide_false, Nat.reduceBEq, St.ids, upto, arr_sub, askP_0]
    · rintro k σ' ⟨i, hk, hi, rfl⟩ Q1 hQ1
      refine sq fun _ _ => ?_
      refine sq fun _ _ => ?_
      refine rg (sg ?_)
      refine nx ?_
      refine cb (fun h => ?_) (fun h => ?_)
      · have hin : i < q.aggs.length := by omega
        have hwi : IntKind.i64.wrap ((i : Int) + 1) = ((i + 1 : Nat) : Int) := wrap_succ (by omega)
        have hee := el_at (f := cAe) hin
        have hsz : q.aggs[i].col.size ≤ 1000 := Nat.le_trans (hq.agg _ (List.getElem_mem hin)) (by omega)
        have hap := askP_succ q i hin
        have hapl := askP_len q hq i
        have hE : ∀ l : List ByteArray, List.map (fun x => lc (cSt x)) l ++ [[xS (ofL (toldL q.aggs[i]))]] = List.map (fun x => lc (cSt x)) (l ++ [ofL (toldL q.aggs[i])]) := fun l => by simp [lc, cSt]
        refine sk (sg ?_)
        refine nx ?_
        refine sq fun _ _ => ?_
        refine bl ?_
        refine rg (sg ?_)
        refine and_assoc.2 ?_
        refine And.intro (by first | assumption | omega | rfl | trivial) ?_
        refine And.intro (by first | assumption | omega | rfl | trivial) ?_
        refine cl [] (sg ?_)
        simp (disch := omega) only [el_at]
        refine sg ?_
        refine (c17at q.aggs[i] (hag _ (List.getElem_mem hin)) hsz).mono ?_
        rintro r bx ⟨rfl, rfl⟩
        refine sg ?_
        refine And.intro (by first | assumption | omega | rfl | trivial) ?_
        refine And.intro (by simp only [maxLen]; omega) ?_
        refine nx ?_
        refine rg (sg ?_)
        simp (disch := omega) only [wrap_succ]
        refine ln (q.aggs.length - (i + 1)) [0, 3] ?_ ?_
        · omega
        refine ⟨i + 1, by omega, by omega, ?_⟩
        simp only [go_sem, Nat.reduceAdd, Nat.reduceSub, Nat.reduceMul, Nat.reduceLT, Nat.reduceLeDiff, Nat.reduceEqDiff, reduceIte, reduceCtorEq, if_true, if_false, Int.reduceEq, Int.reduceLT, Int.reduceLE, Int.reduceAdd, Int.reduceSub, Int.reduceMul, Int.reduceNeg, Int.reduceToNat, decide_true, decide_false, Nat.reduceBEq, St.ids, upto, arr_sub, hwi, hap, hE, lc_sub, arS, List.map_append, List.map_cons, List.map_nil, List.length_append, List.length_cons, List.length_nil]
        all_goals rfl
      · have hie : i = q.aggs.length := by omega
        subst hie
        have hbl := askB_len hq
        have hAB : askP q q.aggs.length = askB q := rfl
        refine xt (sg ?_)
        refine lx (g := sg ?_)
        refine nx ?_
        refine sq fun _ _ => ?_
        refine rg (sg ?_)
        refine nx ?_
        refine sq fun _ _ => ?_
        refine sq fun _ _ => ?_
        refine rg (sg ?_)
        refine nx ?_
        simp only [hAB]
        refine cb (fun g0 => ?_) (fun g0 => ?_)
        · have hz : askB q = [] := List.eq_nil_of_length_eq_zero (by omega)
          have hT : askT q = [42] := by rw [askT_eq]; unfold askE; rw [if_pos (by rw [← askB_bs, hz]; rfl), Lib.join_one]
          have hX : (⟨#[115, 101, 108, 101, 99, 116, 32]⟩ : ByteArray) ++ ⟨#[42]⟩ = ofL (selL ++ askT q) := by rw [hT]; rfl
          refine rg (sg ?_)
          refine And.intro (by first | assumption | omega | rfl | trivial) ?_
          refine nx ?_
          refine sq fun _ _ => ?_
          refine sq fun _ _ => ?_
          refine rg (sg ?_)
          refine nx ?_
          refine bl ?_
          rw [hX]
          refine lp [1, 3, 5, 6] [0, 1] (fun k σ => k = 0 ∧ σ = ⟨75, 0, [(1, xPtr 0 0), (3, xOwn 1 1 0 (askB q).length), (5, A.str (ofL (selL ++ askT q))), (6, A.int .i64 0)], [boxQ q, arS (askB q)]⟩) 0 ?_ ?_
          · refine ⟨rfl, ?_⟩
            simp only [go_sem, Nat.reduceAdd, Nat.reduceSub, Nat.reduceMul, Nat.reduceLT, Nat.reduceLeDiff, Nat.reduceEqDiff, reduceIte, reduceCtorEq, if_true, if_false, Int.reduceEq, Int.reduceLT, Int.reduceLE, Int.reduceAdd, Int.reduceSub, Int.reduceMul, Int.reduceNeg, Int.reduceToNat, decide_true, decide_false, Nat.reduceBEq, St.ids, upto, arr_sub]
          · rintro k σ' ⟨hk, rfl⟩ Q2 hQ2
            refine sq fun _ _ => ?_
            refine sq fun _ _ => ?_
            refine rg (sg ?_)
            refine nx ?_
            refine cb (fun h2 => ?_) (fun h2 => ?_)
            · exfalso
              omega
            · have hHl := hdQ_len hq
              have hjl := askT_len hq
              have z0 : (selL ++ askT q).toArray.size ≤ 5000 := by
                rw [List.size_toArray, List.length_append]
                simp only [selL, List.length_cons, List.length_nil]
                omega
              have z1 : (#[32, 119, 104, 101, 114, 101, 32] : Array UInt8).size = 7 := rfl
              have z1b : (#[32, 102, 114, 111, 109, 32] : Array UInt8).size = 6 := rfl
              have z2 : (hdQ q).toArray.size ≤ 5000 := hHl
              have z3 : (txP q.whr).toArray.size ≤ 6400 := by rw [List.size_toArray]; omega
              have z6 : (ofL (txP q.whr)).size ≤ 6400 := z3
              have z4 : (#[32, 103, 114, 111, 117, 112, 32, 98, 121, 32] : Array UInt8).size = 10 := rfl
              have hH : ofL (selL ++ askT q) ++ ⟨#[32, 102, 114, 111, 109, 32]⟩ ++ q.table = ofL (hdQ q) := by
                unfold hdQ fromL
                exact ba_ext (by simp [bsL, ByteArray.data_append])
              refine xt (sg ?_)
              refine lx (g := sg ?_)
              refine nx ?_
              refine sq fun _ _ => ?_
              refine rg (sg ?_)
              refine And.intro (by first | assumption | omega | rfl | trivial) ?_
              refine And.intro (by first | assumption | omega | rfl | trivial) ?_
              refine nx ?_
              refine sq fun _ _ => ?_
              refine sq fun _ _ => ?_
              refine rg (sg ?_)
              refine nx ?_
              rw [hH]
              refine cb (fun g1 => ?_) (fun g1 => ?_)
              · have hwh : wheT q = wheL ++ txP q.whr := by unfold wheT; rw [if_neg g1]
                have hW : ofL (hdQ q) ++ ⟨#[32, 119, 104, 101, 114, 101, 32]⟩ ++ ofL (txP q.whr) = ofL (hdQ q ++ wheT q) := by
                  rw [hwh]
                  exact ba_ext (by simp [bsL, ByteArray.data_append, wheL])
                refine rg (sg ?_)
                refine And.intro (by first | assumption | omega | rfl | trivial) ?_
                refine cl [] (sg ?_)
                refine (c18 _ (by first | assumption | omega | trivial | rfl) (by first | assumption | omega | trivial | rfl)).mono ?_
                rintro r bx ⟨rfl, rfl⟩
                refine sg ?_
                simp only [if_pos hm]
                refine And.intro (by first | assumption | omega | rfl | trivial) ?_
                refine nx ?_
                refine sq fun _ _ => ?_
                refine sq fun _ _ => ?_
                refine rg (sg ?_)
                refine nx ?_
                rw [hW]
                have z5 : (hdQ q ++ wheT q).toArray.size ≤ 12000 := by
                  rw [List.size_toArray, List.length_append, hwh]
                  rw [List.size_toArray] at z2 z3
                  first | (simp only [wheL, List.length_append, List.length_cons, List.length_nil]; omega) | (simp only [List.length_nil]; omega)
                skip
                refine cb (fun g2 => ?_) (fun g2 => ?_)
                · have hg : grpT q = grpL ++ bsL q.by_ := by unfold grpT; rw [if_neg g2]
                  refine rg (sg ?_)
                  refine And.intro (by first | assumption | omega | rfl | trivial) ?_
                  refine And.intro (by first | assumption | omega | rfl | trivial) ?_
                  refine nx ?_
                  refine sq fun _ _ => ?_
                  refine rg (sg ?_)
                  refine nx ?_
                  refine rt ?_
                  refine f1 (g := sg ?_)
                  refine ax [] ⟨congrArg A.str ?_, rfl⟩
                  rw [txQ_hd, hg, ← List.append_assoc]
                  exact ba_ext (by simp [bsL, ByteArray.data_append, grpL])
                · have hg : grpT q = [] := by unfold grpT; rw [if_pos (Classical.byContradiction g2)]
                  refine sk (sg ?_)
                  refine nx ?_
                  refine sq fun _ _ => ?_
                  refine rg (sg ?_)
                  refine nx ?_
                  refine rt ?_
                  refine f1 (g := sg ?_)
                  exact ax [] ⟨congrArg A.str (by rw [txQ_hd, hg, List.append_nil]), rfl⟩
              · have hwh : wheT q = [] := by unfold wheT; rw [if_pos (Classical.byContradiction g1)]
                have hW : ofL (hdQ q) = ofL (hdQ q ++ wheT q) := by rw [hwh, List.append_nil]
                rw [hW]
                have z5 : (hdQ q ++ wheT q).toArray.size ≤ 12000 := by
                  rw [List.size_toArray, List.length_append, hwh]
                  rw [List.size_toArray] at z2 z3
                  first | (simp only [wheL, List.length_append, List.length_cons, List.length_nil]; omega) | (simp only [List.length_nil]; omega)
                refine sk (sg ?_)
                refine nx ?_
                refine sq fun _ _ => ?_
                refine sq fun _ _ => ?_
                refine rg (sg ?_)
                refine nx ?_
                refine cb (fun g2 => ?_) (fun g2 => ?_)
                · have hg : grpT q = grpL ++ bsL q.by_ := by unfold grpT; rw [if_neg g2]
                  refine rg (sg ?_)
                  refine And.intro (by first | assumption | omega | rfl | trivial) ?_
                  refine And.intro (by first | assumption | omega | rfl | trivial) ?_
                  refine nx ?_
                  refine sq fun _ _ => ?_
                  refine rg (sg ?_)
                  refine nx ?_
                  refine rt ?_
                  refine f1 (g := sg ?_)
                  refine ax [] ⟨congrArg A.str ?_, rfl⟩
                  rw [txQ_hd, hg, ← List.append_assoc]
                  exact ba_ext (by simp [bsL, ByteArray.data_append, grpL])
                · have hg : grpT q = [] := by unfold grpT; rw [if_pos (Classical.byContradiction g2)]
                  refine sk (sg ?_)
                  refine nx ?_
                  refine sq fun _ _ => ?_
                  refine rg (sg ?_)
                  refine nx ?_
                  refine rt ?_
                  refine f1 (g := sg ?_)
                  exact ax [] ⟨congrArg A.str (by rw [txQ_hd, hg, List.append_nil]), rfl⟩
        · have hne : askB q ≠ [] := fun h => g0 (by rw [h]; rfl)
          refine sk (sg ?_)
          refine nx ?_
          refine sq fun _ _ => ?_
          refine sq fun _ _ => ?_
          refine rg (sg ?_)
          refine nx ?_
          refine bl ?_
          refine lp [1, 3, 5, 6] [0, 1] (fun k σ => ∃ i : Nat, k = (askB q).length - i ∧ i ≤ (askB q).length ∧ σ = ⟨75, 0, [(1, xPtr 0 0), (3, xOwn 1 1 0 (askB q).length), (5, A.str (ofL (selL ++ jnQ q i))), (6, A.int .i64 i)], [boxQ q, arS (askB q)]⟩) (askB q).length ?_ ?_
          · refine ⟨0, by omega, by omega, ?_⟩
            rw [jnQ_0, List.append_nil]
            simp only [go_sem, Nat.reduceAdd, Nat.reduceSub, Nat.reduceMul, Nat.reduceLT, Nat.reduceLeDiff, Nat.reduceEqDiff, reduceIte, reduceCtorEq, if_true, if_false, Int.reduceEq, Int.reduceLT, Int.reduceLE, Int.reduceAdd, Int.reduceSub, Int.reduceMul, Int.reduceNeg, Int.reduceToNat, decide_true, decide_false, Nat.reduceBEq, St.ids, upto, arr_sub]
            all_goals rfl
          · rintro k σ' ⟨i, hk, hi, rfl⟩ Q2 hQ2
            refine sq fun _ _ => ?_
            refine sq fun _ _ => ?_
            refine rg (sg ?_)
            refine nx ?_
            refine cb (fun h2 => ?_) (fun h2 => ?_)
            · have hin : i < (askB q).length := by omega
              have hwi : IntKind.i64.wrap ((i : Int) + 1) = ((i + 1 : Nat) : Int) := wrap_succ (by omega)
              have he : ((askB q).map fun x => lc (cSt x)).getD i [] = [xS (askB q)[i]] := own_at (l := askB q) cSt hin
              have hjs := jnQ_succ q i hin
              have hjl := jnQ_len q hq i
              have z7 : (selL ++ jnQ q i).toArray.size ≤ 5000 := by
                rw [List.size_toArray, List.length_append]
                simp only [selL, List.length_cons, List.length_nil]
                omega
              have z8 : (askB q)[i].size ≤ 105 := by
                have := askB_size hq _ (List.getElem_mem hin)
                rw [len_bsL] at this
                exact this
              have z9 : (#[44, 32] : Array UInt8).size = 2 := rfl
              refine sk (sg ?_)
              refine nx ?_
              refine sq fun _ _ => ?_
              refine bl ?_
              refine sq fun _ _ => ?_
              refine sq fun _ _ => ?_
              refine rg (sg ?_)
              refine nx ?_
              refine cb (fun h3 => ?_) (fun h3 => ?_)
              · rw [if_neg (by omega)] at hjs
                have hS : ofL (selL ++ jnQ q i) ++ ⟨#[44, 32]⟩ ++ (askB q)[i] = ofL (selL ++ jnQ q (i + 1)) := by
                  rw [hjs]
                  exact ba_ext (by simp [bsL, ByteArray.data_append])
                refine rg (sg ?_)
                refine And.intro (by first | assumption | omega | rfl | trivial) ?_
                refine nx ?_
                refine rg (sg ?_)
                refine and_assoc.2 ?_
                refine And.intro (by first | assumption | omega | rfl | trivial) ?_
                refine And.intro (by first | assumption | omega | rfl | trivial) ?_
                refine And.intro (by first | assumption | omega | rfl | trivial) ?_
                simp only [go_sem, Nat.reduceAdd, Nat.reduceSub, Nat.reduceMul, Nat.reduceLT, Nat.reduceLeDiff, Nat.reduceEqDiff, reduceIte, reduceCtorEq, if_true, if_false, Int.reduceEq, Int.reduceLT, Int.reduceLE, Int.reduceAdd, Int.reduceSub, Int.reduceMul, Int.reduceNeg, Int.reduceToNat, decide_true, decide_false, Nat.reduceBEq, he, List.take_succ_cons, List.take_zero, List.headD_cons]
                refine And.intro (by first | assumption | omega | rfl | trivial) ?_
                refine nx ?_
                refine rg (sg ?_)
                simp (disch := omega) only [wrap_succ]
                rw [hS]
                refine ln ((askB q).length - (i + 1)) [0, 1] ?_ ?_
                · omega
                refine ⟨i + 1, by omega, by omega, ?_⟩
                simp only [go_sem, Nat.reduceAdd, Nat.reduceSub, Nat.reduceMul, Nat.reduceLT, Nat.reduceLeDiff, Nat.reduceEqDiff, reduceIte, reduceCtorEq, if_true, if_false, Int.reduceEq, Int.reduceLT, Int.reduceLE, Int.reduceAdd, Int.reduceSub, Int.reduceMul, Int.reduceNeg, Int.reduceToNat, decide_true, decide_false, Nat.reduceBEq, St.ids, upto, arr_sub, hwi]
              · have hi0 : i = 0 := by omega
                have hS : ofL (selL ++ jnQ q i) ++ (askB q)[i] = ofL (selL ++ jnQ q (i + 1)) := by
                  rw [hjs, if_pos hi0, show jnQ q i = [] by rw [hi0, jnQ_0], List.append_nil]
                  exact ba_ext (by simp [bsL, ByteArray.data_append])
                refine sk (sg ?_)
                refine nx ?_
                refine rg (sg ?_)
                refine and_assoc.2 ?_
                refine And.intro (by first | assumption | omega | rfl | trivial) ?_
                refine And.intro (by first | assumption | omega | rfl | trivial) ?_
                refine And.intro (by first | assumption | omega | rfl | trivial) ?_
                simp only [go_sem, Nat.reduceAdd, Nat.reduceSub, Nat.reduceMul, Nat.reduceLT, Nat.reduceLeDiff, Nat.reduceEqDiff, reduceIte, reduceCtorEq, if_true, if_false, Int.reduceEq, Int.reduceLT, Int.reduceLE, Int.reduceAdd, Int.reduceSub, Int.reduceMul, Int.reduceNeg, Int.reduceToNat, decide_true, decide_false, Nat.reduceBEq, he, List.take_succ_cons, List.take_zero, List.headD_cons]
                refine And.intro (by first | assumption | omega | rfl | trivial) ?_
                refine nx ?_
                refine rg (sg ?_)
                simp (disch := omega) only [wrap_succ]
                rw [hS]
                refine ln ((askB q).length - (i + 1)) [0, 1] ?_ ?_
                · omega
                refine ⟨i + 1, by omega, by omega, ?_⟩
                simp only [go_sem, Nat.reduceAdd, Nat.reduceSub, Nat.reduceMul, Nat.reduceLT, Nat.reduceLeDiff, Nat.reduceEqDiff, reduceIte, reduceCtorEq, if_true, if_false, Int.reduceEq, Int.reduceLT, Int.reduceLE, Int.reduceAdd, Int.reduceSub, Int.reduceMul, Int.reduceNeg, Int.reduceToNat, decide_true, decide_false, Nat.reduceBEq, St.ids, upto, arr_sub, hwi]
            · have hie : i = (askB q).length := by omega
              rw [hie, jnQ_all q hne]
              have hHl := hdQ_len hq
              have hjl := askT_len hq
              have z0 : (selL ++ askT q).toArray.size ≤ 5000 := by
                rw [List.size_toArray, List.length_append]
                simp only [selL, List.length_cons, List.length_nil]
                omega
              have z1 : (#[32, 119, 104, 101, 114, 101, 32] : Array UInt8).size = 7 := rfl
              have z1b : (#[32, 102, 114, 111, 109, 32] : Array UInt8).size = 6 := rfl
              have z2 : (hdQ q).toArray.size ≤ 5000 := hHl
              have z3 : (txP q.whr).toArray.size ≤ 6400 := by rw [List.size_toArray]; omega
              have z6 : (ofL (txP q.whr)).size ≤ 6400 := z3
              have z4 : (#[32, 103, 114, 111, 117, 112, 32, 98, 121, 32] : Array UInt8).size = 10 := rfl
              have hH : ofL (selL ++ askT q) ++ ⟨#[32, 102, 114, 111, 109, 32]⟩ ++ q.table = ofL (hdQ q) := by
                unfold hdQ fromL
                exact ba_ext (by simp [bsL, ByteArray.data_append])
              refine xt (sg ?_)
              refine lx (g := sg ?_)
              refine nx ?_
              refine sq fun _ _ => ?_
              refine rg (sg ?_)
              refine And.intro (by first | assumption | omega | rfl | trivial) ?_
              refine And.intro (by first | assumption | omega | rfl | trivial) ?_
              refine nx ?_
              refine sq fun _ _ => ?_
              refine sq fun _ _ => ?_
              refine rg (sg ?_)
              refine nx ?_
              rw [hH]
              refine cb (fun g1 => ?_) (fun g1 => ?_)
              · have hwh : wheT q = wheL ++ txP q.whr := by unfold wheT; rw [if_neg g1]
                have hW : ofL (hdQ q) ++ ⟨#[32, 119, 104, 101, 114, 101, 32]⟩ ++ ofL (txP q.whr) = ofL (hdQ q ++ wheT q) := by
                  rw [hwh]
                  exact ba_ext (by simp [bsL, ByteArray.data_append, wheL])
                refine rg (sg ?_)
                refine And.intro (by first | assumption | omega | rfl | trivial) ?_
                refine cl [] (sg ?_)
                refine (c18 _ (by first | assumption | omega | trivial | rfl) (by first | assumption | omega | trivial | rfl)).mono ?_
                rintro r bx ⟨rfl, rfl⟩
                refine sg ?_
                simp only [if_pos hm]
                refine And.intro (by first | assumption | omega | rfl | trivial) ?_
                refine nx ?_
                refine sq fun _ _ => ?_
                refine sq fun _ _ => ?_
                refine rg (sg ?_)
                refine nx ?_
                rw [hW]
                have z5 : (hdQ q ++ wheT q).toArray.size ≤ 12000 := by
                  rw [List.size_toArray, List.length_append, hwh]
                  rw [List.size_toArray] at z2 z3
                  first | (simp only [wheL, List.length_append, List.length_cons, List.length_nil]; omega) | (simp only [List.length_nil]; omega)
                skip
                refine cb (fun g2 => ?_) (fun g2 => ?_)
                · have hg : grpT q = grpL ++ bsL q.by_ := by unfold grpT; rw [if_neg g2]
                  refine rg (sg ?_)
                  refine And.intro (by first | assumption | omega | rfl | trivial) ?_
                  refine And.intro (by first | assumption | omega | rfl | trivial) ?_
                  refine nx ?_
                  refine sq fun _ _ => ?_
                  refine rg (sg ?_)
                  refine nx ?_
                  refine rt ?_
                  refine f1 (g := sg ?_)
                  refine ax [] ⟨congrArg A.str ?_, rfl⟩
                  rw [txQ_hd, hg, ← List.append_assoc]
                  exact ba_ext (by simp [bsL, ByteArray.data_append, grpL])
                · have hg : grpT q = [] := by unfold grpT; rw [if_pos (Classical.byContradiction g2)]
                  refine sk (sg ?_)
                  refine nx ?_
                  refine sq fun _ _ => ?_
                  refine rg (sg ?_)
                  refine nx ?_
                  refine rt ?_
                  refine f1 (g := sg ?_)
                  exact ax [] ⟨congrArg A.str (by rw [txQ_hd, hg, List.append_nil]), rfl⟩
              · have hwh : wheT q = [] := by unfold wheT; rw [if_pos (Classical.byContradiction g1)]
                have hW : ofL (hdQ q) = ofL (hdQ q ++ wheT q) := by rw [hwh, List.append_nil]
                rw [hW]
                have z5 : (hdQ q ++ wheT q).toArray.size ≤ 12000 := by
                  rw [List.size_toArray, List.length_append, hwh]
                  rw [List.size_toArray] at z2 z3
                  first | (simp only [wheL, List.length_append, List.length_cons, List.length_nil]; omega) | (simp only [List.length_nil]; omega)
                refine sk (sg ?_)
                refine nx ?_
                refine sq fun _ _ => ?_
                refine sq fun _ _ => ?_
                refine rg (sg ?_)
                refine nx ?_
                refine cb (fun g2 => ?_) (fun g2 => ?_)
                · have hg : grpT q = grpL ++ bsL q.by_ := by unfold grpT; rw [if_neg g2]
                  refine rg (sg ?_)
                  refine And.intro (by first | assumption | omega | rfl | trivial) ?_
                  refine And.intro (by first | assumption | omega | rfl | trivial) ?_
                  refine nx ?_
                  refine sq fun _ _ => ?_
                  refine rg (sg ?_)
                  refine nx ?_
                  refine rt ?_
                  refine f1 (g := sg ?_)
                  refine ax [] ⟨congrArg A.str ?_, rfl⟩
                  rw [txQ_hd, hg, ← List.append_assoc]
                  exact ba_ext (by simp [bsL, ByteArray.data_append, grpL])
                · have hg : grpT q = [] := by unfold grpT; rw [if_pos (Classical.byContradiction g2)]
                  refine sk (sg ?_)
                  refine nx ?_
                  refine sq fun _ _ => ?_
                  refine rg (sg ?_)
                  refine nx ?_
                  refine rt ?_
                  refine f1 (g := sg ?_)
                  exact ax [] ⟨congrArg A.str (by rw [txQ_hd, hg, List.append_nil]), rfl⟩
end
section
set_option maxRecDepth 100000
/-! The page's example; the law of texts. -/
def lvq : Qu := ⟨⟨#[116]⟩, [], .mk 2 ⟨#[97]⟩ 5 ⟨false, 5, ⟨#[]⟩⟩ 1 ⟨#[]⟩ [], [⟨1, ⟨#[]⟩⟩, ⟨3, ⟨#[97]⟩⟩], ⟨#[98]⟩⟩
theorem lvq_sm : SmQ lvq := ⟨by decide, by decide, by decide, by decide, by decide, by decide, smP_sm 5 _ (by decide)⟩
theorem lvq_rg : Rg lvq.whr := rg_of _ (by decide)
theorem lvq_may : mayQ lvq = true := by decide
theorem lvq_tx : ofL (txQ lvq) = ⟨#[115, 101, 108, 101, 99, 116, 32, 99, 111, 117, 110, 116, 40, 42, 41, 44, 32, 115, 117, 109, 40, 97, 41, 32, 102, 114, 111, 109, 32, 116, 32, 119, 104, 101, 114, 101, 32, 97, 32, 62, 32, 53, 32, 103, 114, 111, 117, 112, 32, 98, 121, 32, 98]⟩ := by
  have h1 : txP lvq.whr = [97, 32, 62, 32, 53] := by
    simp [lvq, txP, valS, itoa5, signL, bsL]
  have h2 : wheT lvq = wheL ++ txP lvq.whr := by
    unfold wheT
    rw [if_neg (by decide)]
  have h3 : askT lvq = [99, 111, 117, 110, 116, 40, 42, 41, 44, 32, 115, 117, 109, 40, 97, 41] := by decide
  have h4 : grpT lvq = grpL ++ [98] := by decide
  unfold txQ
  rw [h2, h3, h4, h1]
  rfl
theorem c6 : PC Tryz.prog 6 [] [] (fun r bx => r = .bool true ∧ bx = []) := by
  refine enter (rs := [.tmp 0]) mx Tryz.func6 Tryz.ntmps6 fun Q0 hQ0 => ?_
  refine sq fun _ _ => ?_
  refine rg (sg ?_)
  refine nx ?_
  refine sq fun _ _ => ?_
  refine rg (sg ?_)
  refine nx ?_
  refine sq fun _ _ => ?_
  refine rg (sg ?_)
  refine cl [] (sg ?_)
  have hv : (fun i => vw [[xI 1, xS ⟨#[]⟩], [xI 3, xS ⟨#[97]⟩]] i) = elemsOf (lvq.aggs.map cAe) := vw_lc lvq.aggs cAe
  rw [hv]
  have hc := c7 lvq lvq_sm lvq_rg
  rw [lvq_may, if_pos rfl, lvq_tx] at hc
  refine (PC.le hc).mono ?_
  rintro r bx ⟨rfl, rfl⟩
  refine sg ?_
  refine .inl ⟨by simp [cleanA, leafIn, cleanL], by trivial, ?_⟩
  refine nx ?_
  refine rt ?_
  refine f1 (g := sg ?_)
  exact ax [] ⟨rfl, rfl⟩
theorem c3 (q : Qu) (hr : Rg q.whr) : PC Tryz.prog 3 [aQu q] [] (fun r bx => r = .bool true ∧ bx = []) := by
  refine enter (rs := [.tmp 2]) mx Tryz.func3 Tryz.ntmps3 fun Q0 hQ0 => ?_
  refine sq fun _ _ => ?_
  refine rg (sg ?_)
  refine nx ?_
  refine sq fun _ _ => ?_
  refine sq fun _ _ => ?_
  refine rg (sg ?_)
  refine cl [] (sg ?_)
  refine (c5w q).mono ?_
  rintro r bx ⟨⟨b, rfl, hb⟩, rfl⟩
  refine sg ?_
  cases b
  · refine nx ?_
    refine ct (hx := ?_)
    refine sq fun _ _ => ?_
    refine rg (sg ?_)
    refine cl [] (sg ?_)
    refine (c6).mono ?_
    rintro r bx ⟨rfl, rfl⟩
    refine sg ?_
    refine nx ?_
    refine rt (sg ?_)
    refine f1 (g := sg ?_)
    exact ax [] ⟨rfl, rfl⟩
  · have hq := hb rfl
    refine nx ?_
    refine cf (hy := ?_)
    refine sk (sg ?_)
    refine nx ?_
    refine sq fun _ _ => ?_
    refine dr [.take 0, .take 2, .one 1, .one 3, .pure 4, .pure 5, .one 6, .pure 7, .pure 8] [] (sg ?_)
    refine cl [] (sg ?_)
    refine (c7 _ (by first | assumption | omega | trivial | rfl) (by first | assumption | omega | trivial | rfl)).mono ?_
    rintro r bx ⟨rfl, rfl⟩
    refine sg ?_
    refine cl [] (sg ?_)
    refine (c8 _ (by first | assumption | omega | trivial | rfl) (by first | assumption | omega | trivial | rfl)).mono ?_
    rintro r bx ⟨rfl, rfl⟩
    refine sg ?_
    refine cl [] (sg ?_)
    refine (c6).mono ?_
    rintro r bx ⟨rfl, rfl⟩
    refine sg ?_
    refine nx ?_
    refine rt ?_
    refine f1 (g := sg ?_)
    exact ax [] ⟨rfl, rfl⟩
end
section
set_option maxRecDepth 100000
/-! A query that came in. -/
theorem cells1 {w : World} {a : Addr} {cs : List Value} (h : w.cells? 0 a 1 = some cs) : cs.length = 1 ∧ ∀ j, j < 1 → w.cell? (a.add j) = cs[j]? := by
  unfold World.cells? at h
  rw [if_pos (Nat.zero_le _)] at h
  simp only [show List.range 1 = [0] from rfl, List.mapM_cons, List.mapM_nil, Option.bind_eq_bind, Option.pure_def, Option.bind_eq_some_iff, Option.some.injEq] at h
  obtain ⟨x0, e0, l0, rfl, rfl⟩ := h
  refine ⟨rfl, fun j hj => ?_⟩
  match j, hj with
  | 0, _ => exact e0
theorem cells2 {w : World} {a : Addr} {cs : List Value} (h : w.cells? 0 a 2 = some cs) : cs.length = 2 ∧ ∀ j, j < 2 → w.cell? (a.add j) = cs[j]? := by
  unfold World.cells? at h
  rw [if_pos (Nat.zero_le _)] at h
  simp only [show List.range 2 = [0, 1] from rfl, List.mapM_cons, List.mapM_nil, Option.bind_eq_bind, Option.pure_def, Option.bind_eq_some_iff, Option.some.injEq] at h
  obtain ⟨x0, e0, l0, ⟨x1, e1, l1, rfl, rfl⟩, rfl⟩ := h
  refine ⟨rfl, fun j hj => ?_⟩
  match j, hj with
  | 0, _ => exact e0
  | 1, _ => exact e1
abbrev vAe (c : Ae) : List Value := [.int .i64 c.op, .string c.col]
abbrev vSt (c : ByteArray) : List Value := [.string c]
theorem open_st {H : Type} {enc : TypeId × Value → H} {W : World} {sp : Nat → Bool} {n : Nat} {cs : List Value} {x : DataW H × List MemPlace} (h : DataW.trod enc Tryz.prog W 0 sp true n 9 cs = some x) : ∃ c : ByteArray, cs = vSt c := by
  obtain ⟨s, e, -, -⟩ := DataW.trod_string Tryz.underlying9 h
  exact ⟨s, e⟩
theorem open_ae {H : Type} {enc : TypeId × Value → H} {W : World} {sp : Nat → Bool} {n : Nat} {cs : List Value} {x : DataW H × List MemPlace} (h : DataW.trod enc Tryz.prog W 0 sp true n 36 cs = some x) : ∃ c : Ae, cs = vAe c := by
  obtain ⟨xs, m, rfl, -, hcl, hxl, hf⟩ := DataW.trod_struct Tryz.underlying36 h
  have c62 : Tryz.prog.cellsOf 36 = 2 := by kernel_rfl
  have c3 : Tryz.prog.cellsOf 3 = 1 := by kernel_rfl
  have c9 : Tryz.prog.cellsOf 9 = 1 := by kernel_rfl
  rw [c62] at hcl
  match cs, hcl with
  | [a0, a1], _ =>
  match xs, hxl with
  | [y0, y1], _ =>
  have f0 : DataW.trod enc Tryz.prog W 0 sp true m 3 (List.take (Tryz.prog.cellsOf 3) (List.drop 0 [a0, a1])) = some y0 := hf 0 _ rfl
  have f1 : DataW.trod enc Tryz.prog W 0 sp true m 9 (List.take (Tryz.prog.cellsOf 9) (List.drop 1 [a0, a1])) = some y1 := hf 1 _ rfl
  rw [c3] at f0
  rw [c9] at f1
  obtain ⟨o, e0, -, -⟩ := DataW.trod_int (cs := [a0]) Tryz.underlying3 f0
  obtain ⟨s, e1, -, -⟩ := DataW.trod_string (cs := [a1]) Tryz.underlying9 f1
  injection e0 with e0; injection e1 with e1
  subst e0 e1
  exact ⟨⟨o, s⟩, rfl⟩
theorem open_strs {H : Type} {enc : TypeId × Value → H} {W : World} {sp : Nat → Bool} {n : Nat} {cs : List Value} {x : DataW H × List MemPlace} (h : DataW.trod enc Tryz.prog W 0 sp true n 22 cs = some x) : ∃ (l : List ByteArray) (u : Value), cs = [u] ∧ RC (fun k => k < W.heap.size) W (.sl l.length 1 (elemsOf (l.map cSt))) u := by
  have c62 : Tryz.prog.cellsOf 9 = 1 := by kernel_rfl
  rcases DataW.trod_slice Tryz.underlying22 h with ⟨rfl, -⟩ | ⟨a, len, cap, elems, rest, r, rfl, rfl, -, -, hlc, hcm, hel, helem, -, -⟩
  · exact ⟨[], _, rfl, none, 0, rfl, ⟨Nat.le_refl _, Nat.zero_le _⟩, fun i hi => absurd hi (Nat.not_lt_zero _)⟩
  · rw [c62] at helem
    obtain ⟨l, hl, hQ⟩ := choose_list (Q := fun i (c : ByteArray) => W.cells? 0 (a.add (i * 1)) 1 = some (vSt c)) len fun i hi => by
      have h1 := helem i hi
      rw [List.getElem?_eq_getElem (by omega), Option.bind_eq_some_iff] at h1
      obtain ⟨ci, h2, h3⟩ := h1
      obtain ⟨c, rfl⟩ := open_st h3
      exact ⟨c, h2⟩
    subst hl
    refine ⟨l, _, rfl, some a, cap, rfl, ⟨hlc, Nat.le_trans (Nat.le_trans hlc hcm) (by simp [maxLen])⟩, fun i hi j hj => ?_⟩
    obtain ⟨-, hc⟩ := cells1 (hQ i hi)
    have hee := el_at (f := cSt) (l := l) (i := i) hi
    have hcj := hc j hj
    rw [add_add] at hcj
    have hv : ∃ v, (vSt l[i])[j]? = some v := ⟨_, List.getElem?_eq_getElem (by simpa using hj)⟩
    obtain ⟨v, hv⟩ := hv
    rw [hv] at hcj
    refine ⟨a, v, rfl, ?_, hcj, ?_⟩
    · have := cell_lt hcj
      rw [add_block] at this
      exact this
    · show RC _ _ (elemsOf (l.map cSt) i j) v
      rw [hee]
      match j, hj with
      | 0, _ => rw [el_St0]; exact (Option.some.inj hv).symm
theorem open_aes {H : Type} {enc : TypeId × Value → H} {W : World} {sp : Nat → Bool} {n : Nat} {cs : List Value} {x : DataW H × List MemPlace} (h : DataW.trod enc Tryz.prog W 0 sp true n 28 cs = some x) : ∃ (l : List Ae) (u : Value), cs = [u] ∧ RC (fun k => k < W.heap.size) W (.sl l.length 2 (elemsOf (l.map cAe))) u := by
  have c62 : Tryz.prog.cellsOf 36 = 2 := by kernel_rfl
  rcases DataW.trod_slice Tryz.underlying28 h with ⟨rfl, -⟩ | ⟨a, len, cap, elems, rest, r, rfl, rfl, -, -, hlc, hcm, hel, helem, -, -⟩
  · exact ⟨[], _, rfl, none, 0, rfl, ⟨Nat.le_refl _, Nat.zero_le _⟩, fun i hi => absurd hi (Nat.not_lt_zero _)⟩
  · rw [c62] at helem
    obtain ⟨l, hl, hQ⟩ := choose_list (Q := fun i (c : Ae) => W.cells? 0 (a.add (i * 2)) 2 = some (vAe c)) len fun i hi => by
      have h1 := helem i hi
      rw [List.getElem?_eq_getElem (by omega), Option.bind_eq_some_iff] at h1
      obtain ⟨ci, h2, h3⟩ := h1
      obtain ⟨c, rfl⟩ := open_ae h3
      exact ⟨c, h2⟩
    subst hl
    refine ⟨l, _, rfl, some a, cap, rfl, ⟨hlc, Nat.le_trans (Nat.le_trans hlc hcm) (by simp [maxLen])⟩, fun i hi j hj => ?_⟩
    obtain ⟨-, hc⟩ := cells2 (hQ i hi)
    have hee := el_at (f := cAe) (l := l) (i := i) hi
    have hcj := hc j hj
    rw [add_add] at hcj
    have hv : ∃ v, (vAe l[i])[j]? = some v := ⟨_, List.getElem?_eq_getElem (by simpa using hj)⟩
    obtain ⟨v, hv⟩ := hv
    rw [hv] at hcj
    refine ⟨a, v, rfl, ?_, hcj, ?_⟩
    · have := cell_lt hcj
      rw [add_block] at this
      exact this
    · show RC _ _ (elemsOf (l.map cAe) i j) v
      rw [hee]
      match j, hj with
      | 0, _ => rw [el_Ae0]; exact (Option.some.inj hv).symm
      | 1, _ => rw [el_Ae1]; exact (Option.some.inj hv).symm
abbrev vQu (q : Qu) (uc up ua : Value) : List Value := [.string q.table, uc, .int .i64 q.whr.op, .string q.whr.col, .int .i64 q.whr.cmp, .bool q.whr.val.nl, .int .i64 q.whr.val.i, .string q.whr.val.s, .int .i64 q.whr.kind, .string q.whr.pat, up, ua, .string q.by_]
/-- The rows of a query's value hold what the query says. -/
def QuAt (W : World) (q : Qu) (uc up ua : Value) : Prop := RC (fun k => k < W.heap.size) W (.sl q.cols.length 1 (elemsOf (q.cols.map cSt))) uc ∧ RC (fun k => k < W.heap.size) W (.sl q.whr.kids.length 9 (elemsOf (q.whr.kids.map cPr))) up ∧ RC (fun k => k < W.heap.size) W (.sl q.aggs.length 2 (elemsOf (q.aggs.map cAe))) ua
theorem open_qu {H : Type} {enc : TypeId × Value → H} {W : World} {sp : Nat → Bool} {n : Nat} {cs : List Value} {x : DataW H × List MemPlace} (h : DataW.trod enc Tryz.prog W 0 sp true n 30 cs = some x) :
    ∃ (q : Qu) (uc up ua : Value), cs = vQu q uc up ua ∧ QuAt W q uc up ua ∧ Rg q.whr := by
  obtain ⟨xs, m, rfl, -, hcl, hxl, hf⟩ := DataW.trod_struct Tryz.underlying30 h
  have cq : Tryz.prog.cellsOf 30 = 13 := by kernel_rfl
  have c9 : Tryz.prog.cellsOf 9 = 1 := by kernel_rfl
  have cs1 : Tryz.prog.cellsOf 22 = 1 := by kernel_rfl
  have cp : Tryz.prog.cellsOf 27 = 9 := by kernel_rfl
  have ca : Tryz.prog.cellsOf 28 = 1 := by kernel_rfl
  rw [cq] at hcl
  match cs, hcl with
  | [a0, a1, a2, a3, a4, a5, a6, a7, a8, a9, a10, a11, a12], _ =>
  match xs, hxl with
  | [y0, y1, y2, y3, y4], _ =>
  have f0 : DataW.trod enc Tryz.prog W 0 sp true m 9 (List.take (Tryz.prog.cellsOf 9) (List.drop 0 [a0, a1, a2, a3, a4, a5, a6, a7, a8, a9, a10, a11, a12])) = some y0 := hf 0 _ rfl
  rw [c9] at f0
  have f1 : DataW.trod enc Tryz.prog W 0 sp true m 22 (List.take (Tryz.prog.cellsOf 22) (List.drop 1 [a0, a1, a2, a3, a4, a5, a6, a7, a8, a9, a10, a11, a12])) = some y1 := hf 1 _ rfl
  rw [cs1] at f1
  have f2 : DataW.trod enc Tryz.prog W 0 sp true m 27 (List.take (Tryz.prog.cellsOf 27) (List.drop 2 [a0, a1, a2, a3, a4, a5, a6, a7, a8, a9, a10, a11, a12])) = some y2 := hf 2 _ rfl
  rw [cp] at f2
  have f3 : DataW.trod enc Tryz.prog W 0 sp true m 28 (List.take (Tryz.prog.cellsOf 28) (List.drop 11 [a0, a1, a2, a3, a4, a5, a6, a7, a8, a9, a10, a11, a12])) = some y3 := hf 3 _ rfl
  rw [ca] at f3
  have f4 : DataW.trod enc Tryz.prog W 0 sp true m 9 (List.take (Tryz.prog.cellsOf 9) (List.drop 12 [a0, a1, a2, a3, a4, a5, a6, a7, a8, a9, a10, a11, a12])) = some y4 := hf 4 _ rfl
  rw [c9] at f4
  clear hf h
  obtain ⟨tb, e0⟩ := open_st (cs := [a0]) f0
  obtain ⟨cl, uc, e1, r1⟩ := open_strs (cs := [a1]) f1
  obtain ⟨p, up, e2, r2, g2⟩ := open_pr m m [a2, a3, a4, a5, a6, a7, a8, a9, a10] _ (Nat.le_refl _) f2
  obtain ⟨al, ua, e3, r3⟩ := open_aes (cs := [a11]) f3
  obtain ⟨by_, e4⟩ := open_st (cs := [a12]) f4
  refine ⟨⟨tb, cl, p, al, by_⟩, uc, up, ua, ?_, ⟨r1, r2, r3⟩, g2⟩
  simp only [List.cons.injEq, and_true] at e0 e1 e2 e3 e4
  obtain ⟨b0, b1, b2, b3, b4, b5, b6, b7, b8⟩ := e2
  subst e0 e1 b0 b1 b2 b3 b4 b5 b6 b7 b8 e3 e4
  rfl
theorem RA_qu {μ : List Nat} {ok : Nat → Prop} {w : World} {q : Qu} {uc up ua : Value} (h1 : RC ok w (.sl q.cols.length 1 (elemsOf (q.cols.map cSt))) uc) (h2 : RC ok w (.sl q.whr.kids.length 9 (elemsOf (q.whr.kids.map cPr))) up) (h3 : RC ok w (.sl q.aggs.length 2 (elemsOf (q.aggs.map cAe))) ua) :
    RA (RL μ ok w) (aQu q) (.agg (vQu q uc up ua).toArray) := by
  refine ⟨_, rfl, rfl, fun j l hj => ?_⟩
  rcases j with _ | _ | _ | _ | _ | _ | _ | _ | _ | _ | _ | _ | _ | j
  all_goals first | (obtain rfl := Option.some.inj hj; exact ⟨_, rfl, by first | rfl | exact h1 | exact h2 | exact h3⟩) | cases hj
end
section
open Go.ChangeShapes Go.WideShapes Go.ChangeAt
theorem PC.told {P : Program} {f : FuncId} {args : List A} {t : Bool} (h : PC P f args [] (fun r bx => r = .one (.c (.v (.bool t))) ∧ bx = [])) (w : World) (cargs : Array Value) (hs : Start w) (hg : ∀ g, g ∈ glIds → g < w.heap.size) (hl : args.length = cargs.size)
    (ha : ∀ (j : Nat) a, args[j]? = some a → ∃ v, cargs[j]? = some v ∧ RA (RL [] (fun k => k < w.heap.size) w) a v) :
    Calls P f cargs w fun e w' => e = .returned (.bool t) ∧ Below w.heap.size w w' := by
  have hm : Mem [] (fun k => k < w.heap.size) [] w := ⟨rfl, fun i j b b' g h _ _ _ _ _ => by simp at h, fun i b g h => by simp at h, fun g h => (nomatch h), fun k h => h, fun i b g h => by simp at h, ⟨w, hs, fun g h => ⟨hg g h, rfl⟩⟩⟩
  refine (h.2 _ [] w cargs (fun b h => by cases h) hm hl ha).mono fun e w' ⟨cv, r, bx, ν, ok', he, ⟨hr, hb⟩, hR, hM, hν, hF, _⟩ => ?_
  subst hr
  have hcv : cv = .bool t := hR
  subst hcv
  exact ⟨he, hF.below⟩
theorem own : ownKnob Tryz.prog.godebug = none := by kernel_rfl
end
section
set_option maxRecDepth 100000
section
variable {H : Type} {enc : TypeId × Value → H}
/-- A law over a laid world, whose shape is kept. -/
theorem handed_both {a : Assume} {C : Checked} {os : Os} {f : FuncId} {fn : Func} {s : ChangeSpec} {conds : List PathCond} {apart fresh handsOn again : Bool} {X : World → Array Value → Prop}
    (hX : ∀ (w w' : World) (args : Array Value), w.heap = w'.heap → X w args → X w' args)
    (own : ownKnob C.prog.godebug = none) (started : os.Started) (noInit : C.prog.inits.idxOf? f = none) (hfn : C.prog.funcs[f]? = some fn)
    (witness : ∃ (w : World) (tape : Tape) (i : Input), w.os = os ∧ (w.forCall tape i).Shaped C.prog ∧ i.vars = [] ∧ Input.okWide C.prog (w.forCall tape i) .any w.heap.size f i ∧
      ((s.pre enc C.prog fn conds apart (w.forCall tape i).memory i.args ∧ X (w.forCall tape i).memory i.args) ∧ sizedMet enc C.prog fn (OpenSpec.ofChange s) apart (w.forCall tape i).memory i.args) ∧ a.holds C.prog (lone (Frame.enter C.prog f i.args .normal) [] (w.forCall tape i)))
    (contract : ∀ (W : World) (base : Nat) (args : Array Value) (ds gs : List (DataW H)) (before : List MemPlace),
      (∀ (j : Nat) t v, fn.params[j]? = some t → args[j]? = some v → Value.okWide C.prog W .any base t v) →
      DataW.Whole enc C.prog fn.params.toList s.vars apart W args.toList ds gs before → X W args → W.ShapedOpen C.prog →
      Calls C.prog f args W fun e W' => ∃ v, e = .returned v ∧ s.post enc C.prog fn apart fresh handsOn again W args v W') :
    ReturnsInHanded a C os f .any (fun w args => (s.pre enc C.prog fn conds apart w args ∧ X w args) ∧ sizedMet enc C.prog fn (OpenSpec.ofChange s) apart w args) (s.post enc C.prog fn apart fresh handsOn again) := by
  refine returnsInHanded_of_calls own started noInit witness ?_
  intro w tape i _ hsh _ hok hpre hholds
  obtain ⟨_, _, _, fn', hfn', _, _, _, _, hval⟩ := hok
  have e : fn' = fn := Option.some.inj (hfn'.symm.trans hfn)
  subst e
  obtain ⟨⟨⟨ds, gs, before, hw, hc⟩, hx⟩, hz⟩ := hpre
  refine (contract (w.forCall tape i) w.heap.size i.args ds gs before hval (DataW.Whole.of_heap (w' := w.forCall tape i) (by rfl) hw) (hX _ _ _ (by rfl) hx) hsh).mono fun e W' ⟨v, he, hp⟩ => ?_
  subst he
  exact ChangeSpec.post_blind hp
end
theorem lt_var {P : Program} {W : World} {n : String} {g : Nat} {cs : Array Value} (hg : P.globalNamed n = some g) (h : W.var? P n = some cs) : g < W.heap.size := by
  unfold World.var? at h
  simp only [hg, Option.bind_some] at h
  rcases Nat.lt_or_ge g W.heap.size with h' | h'
  · exact h'
  · simp [Array.getElem?_eq_none h'] at h
theorem lt_cell {W : World} {g : Nat} {v : Value} (h : W.cell? ⟨g, 0, none⟩ = some v) : g < W.heap.size := by
  rcases Nat.lt_or_ge g W.heap.size with h' | h'
  · exact h'
  · simp [World.cell?, Array.getElem?_eq_none h'] at h
theorem maxLen_cell {W : World} (h : W.ShapedOpen Tryz.prog) : ∃ m : Int, W.cell? ⟨0, 0, none⟩ = some (.int .i64 m) :=
  cell_of_shapedOpen_int (t := 3) (zero := #[.int .i64 0]) h (by rw [show Tryz.prog.globals.size = 6 from by kernel_rfl]; decide) (by kernel_rfl) rfl (by kernel_rfl) (by kernel_rfl) Tryz.underlying3
end
section
set_option maxRecDepth 100000
abbrev laidP : List (String × DataW Unit) := [("math/bits.deBruijn32tab", Rows.laid_math_bits_deBruijn32tab), ("math/bits.deBruijn64tab", Rows.laid_math_bits_deBruijn64tab), ("internal/strconv.uint64pow10", Rows.laid_internal_strconv_uint64pow10), ("unicode/utf8.acceptRanges", Rows.laid_unicode_utf8_acceptRanges), ("unicode/utf8.first", Rows.laid_unicode_utf8_first)]
theorem startP {W : World} (h0 : laidMetH Tryz.prog laidP W) (hsh : W.ShapedOpen Tryz.prog) : Start W ∧ ∀ g ∈ glIds, g < W.heap.size := by
  rw [MakeChecks.laidMetH_plain _ _ _ (by kernel_rfl)] at h0
  obtain ⟨m, hm⟩ := maxLen_cell hsh
  have h3 : laidMet Tryz.prog (("internal/strconv.uint64pow10", Lib.tabData .u64 Lib.pow10Tab) :: [("unicode/utf8.acceptRanges", Rows.laid_unicode_utf8_acceptRanges), ("unicode/utf8.first", Rows.laid_unicode_utf8_first)]) W := h0.tail.tail
  have hT : Lib.TabIs Tryz.prog W "internal/strconv.uint64pow10" .u64 Lib.pow10Tab := Lib.tabIs_of_head (g := 1) (t := 127) (n := 20) (e := 94) (by kernel_rfl) (by kernel_rfl) Tryz.underlying127 Tryz.underlying94 (by kernel_rfl) (by kernel_rfl) h3
  refine ⟨⟨hT, trivial, trivial, m, hm⟩, fun g hg => ?_⟩
  have hc : g = 1 ∨ g = 0 := by
    have h0 : g = 0 ∨ g = 1 := by simpa [glIds] using hg
    omega
  rcases hc with rfl | rfl
  · exact lt_var (P := Tryz.prog) (n := "internal/strconv.uint64pow10") (by kernel_rfl) hT
  · exact lt_cell hm
end
section
set_option maxRecDepth 100000
/-! The same predicates. -/
noncomputable def eqP (p q : Pr) : Bool := @decide (p = q) (Classical.propDecidable _)
noncomputable def eqPs (l m : List Pr) : Bool := @decide (l = m) (Classical.propDecidable _)
theorem eqP_iff {p q : Pr} : eqP p q = true ↔ p = q := by unfold eqP; simp
theorem eqPs_iff {l m : List Pr} : eqPs l m = true ↔ l = m := by unfold eqPs; simp
theorem eqPs_ne {l m : List Pr} (h : l ≠ m) : eqPs l m = false := by
  rw [← Bool.not_eq_true, eqPs_iff]; exact h
theorem eqPs_self (l : List Pr) : eqPs l l = true := eqPs_iff.2 rfl
def flE (p q : Pr) : Bool := flatB p.op p.col p.cmp p.val.nl p.val.i p.val.s p.kind p.pat q.op q.col q.cmp q.val.nl q.val.i q.val.s q.kind q.pat
theorem eqP_is (p q : Pr) : eqP p q = (flE p q && eqPs p.kids q.kids) := by
  rw [Bool.eq_iff_iff, Bool.and_eq_true, eqP_iff, eqPs_iff]
  unfold flE flatB
  rw [decide_eq_true_eq]
  constructor
  · rintro rfl
    exact ⟨⟨rfl, rfl, rfl, ⟨rfl, rfl, rfl⟩, rfl, rfl⟩, rfl⟩
  · rintro ⟨⟨h1, h2, h3, ⟨h4, h5, h6⟩, h7, h8⟩, h9⟩
    exact Pr.same h1 h2 h3 (ce_ext h4 h5 h6) h7 h8 h9
theorem eqPs_at {l m : List Pr} (hl : l.length = m.length) (h : ∀ (j : Nat) (h1 : j < l.length) (h2 : j < m.length), l[j] = m[j]) : l = m := List.ext_getElem hl h
theorem pEqF (l m : List Pr) (hl : l.length ≤ 1000) (hm : m.length ≤ 1000) (ih : ∀ k ∈ l, ∀ q ∈ m, PC Tryz.prog 21 [aPr k, aPr q] [] (fun r bx => r = A.bool (eqP k q) ∧ bx = [])) :
    PC Tryz.prog 41 [xRow l.length 9 (elemsOf (l.map cPr)), xRow m.length 9 (elemsOf (m.map cPr)), .one (.fn 21 [])] [] (fun r bx => r = A.bool (eqPs l m) ∧ bx = []) := by
  refine enter (rs := [.tmp 6]) mx Tryz.func41 Tryz.ntmps41 fun Q0 hQ0 => ?_
  refine sq fun _ _ => ?_
  refine rg (sg ?_)
  refine nx ?_
  refine sq fun _ _ => ?_
  refine sq fun _ _ => ?_
  refine rg (sg ?_)
  refine nx ?_
  refine cb (fun h0 => ?_) (fun h0 => ?_)
  · refine sq fun _ _ => ?_
    refine rg (sg ?_)
    refine nx ?_
    refine rt (sg ?_)
    refine f1 (g := sg ?_)
    exact ax [] ⟨congrArg A.bool (eqPs_ne fun h => h0 (by rw [h])).symm, rfl⟩
  · refine sk (sg ?_)
    refine nx ?_
    refine sq fun _ _ => ?_
    refine sq fun _ _ => ?_
    refine rg (sg ?_)
    refine nx ?_
    refine bl ?_
    have hlm : l.length = m.length := by omega
    refine lp [1, 2, 15, 16, 17] [] (fun k σ => ∃ i : Nat, k = l.length - i ∧ i ≤ l.length ∧ (∀ (j : Nat) (h1 : j < l.length) (h2 : j < m.length), j < i → l[j] = m[j]) ∧ σ = ⟨32, 0, [(1, xRow m.length 9 (elemsOf (List.map cPr m))), (2, A.one (L.fn 21 [])), (15, xRow l.length 9 (elemsOf (List.map cPr l))), (16, A.int .i64 l.length), (17, A.int .i64 i)], []⟩) l.length ?_ ?_
    · exact ⟨0, by omega, by omega, fun j h h2 h3 => absurd h3 (Nat.not_lt_zero _), keq⟩
    · rintro k σ' ⟨i, hk, hi, hw, rfl⟩ Q1 hQ1
      refine sq fun _ _ => ?_
      refine rg (sg ?_)
      refine nx ?_
      refine sq fun _ _ => ?_
      refine cb (fun h => ?_) (fun h => ?_)
      · have hin : i < l.length := by omega
        have him : i < m.length := by omega
        have hwi : IntKind.i64.wrap ((i : Int) + 1) = ((i + 1 : Nat) : Int) := wrap_succ (by omega)
        have he := el_at (f := cPr) hin
        have he2 := el_at (f := cPr) him
        refine sk (sg ?_)
        refine nx ?_
        refine sq fun _ _ => ?_
        refine bl ?_
        refine sq fun _ _ => ?_
        refine rg (sg ?_)
        refine and_assoc.2 ?_
        refine And.intro (by first | assumption | omega | rfl | trivial) ?_
        refine And.intro (by first | assumption | omega | rfl | trivial) ?_
        simp (disch := omega) only [el_at]
        refine sg ?_
        refine nx ?_
        refine sq fun _ _ => ?_
        refine rg (sg ?_)
        refine and_assoc.2 ?_
        refine And.intro (by first | assumption | omega | rfl | trivial) ?_
        refine And.intro (by first | assumption | omega | rfl | trivial) ?_
        simp (disch := omega) only [el_at]
        refine sg ?_
        refine nx ?_
        refine sq fun _ _ => ?_
        refine rg (sg ?_)
        refine cl [] (sg ?_)
        refine (ih l[i] (List.getElem_mem hin) m[i] (List.getElem_mem him)).mono ?_
        rintro r bx ⟨rfl, rfl⟩
        refine sg ?_
        refine nx ?_
        refine cb (fun h2 => ?_) (fun h2 => ?_)
        · have hne : l ≠ m := fun e => by
            have h3 : l[i] = m[i] := by subst e; rfl
            rw [eqP_iff.2 h3] at h2
            cases h2
          refine sq fun _ _ => ?_
          refine rg (sg ?_)
          refine nx ?_
          refine rt (sg ?_)
          refine lr (g := sg ?_)
          refine f1 (g := sg ?_)
          exact ax [] ⟨congrArg A.bool (eqPs_ne hne).symm, rfl⟩
        · have h3 : l[i] = m[i] := by
            rw [Bool.not_eq_false] at h2
            exact eqP_iff.1 h2
          have hw2 : ∀ (j : Nat) (h1 : j < l.length) (h2 : j < m.length), j < i + 1 → l[j] = m[j] := by
            intro j h1 h2 h4
            by_cases hji : j = i
            · subst hji
              exact h3
            · exact hw j h1 h2 (by omega)
          refine sk (sg ?_)
          refine nx ?_
          refine rg (sg ?_)
          simp (disch := omega) only [wrap_succ]
          refine ln (l.length - (i + 1)) [] ?_ ?_
          · omega
          exact ⟨i + 1, by omega, by omega, hw2, keq⟩
      · have hall : l = m := eqPs_at hlm fun j h1 h2 => hw j h1 h2 (by omega)
        refine xt (sg ?_)
        refine lx (g := sg ?_)
        refine nx ?_
        refine sq fun _ _ => ?_
        refine rg (sg ?_)
        refine nx ?_
        refine rt ?_
        refine f1 (g := sg ?_)
        exact ax [] ⟨congrArg A.bool (eqPs_iff.2 hall).symm, rfl⟩
end
section
set_option maxRecDepth 100000
theorem c21 : ∀ (p q : Pr), Sm p → Sm q → PC Tryz.prog 21 [aPr p, aPr q] [] (fun r bx => r = A.bool (eqP p q) ∧ bx = []) := by
  refine Pr.by_kids fun p ih q hp hq => ?_
  have hl := hp.len
  have hm := hq.len
  refine enter (rs := [.tmp 4]) mx Tryz.func21 Tryz.ntmps21 fun Q0 hQ0 => ?_
  refine sq fun _ _ => ?_
  refine rg (sg ?_)
  refine nx ?_
  refine sq fun _ _ => ?_
  refine rgs 3 (sgt ?_)
  refine cl [] (sg ?_)
  refine (c40 _ _ _ _ _ _ _ _ _ _ _ _ _ _ _ _ _ _).mono ?_
  rintro r bx ⟨rfl, rfl⟩
  refine sg ?_
  refine hr 6 (sgt ?_)
  simp only [undef]
  refine ⟨fun hf => ⟨hf, ?_⟩, fun hf => ?_⟩
  · refine cl [] (sg ?_)
    refine (pEqF p.kids q.kids (by omega) (by omega) fun k hk j hj => ih k hk j (hp.kid k hk) (hq.kid j hj)).mono ?_
    rintro r bx ⟨rfl, rfl⟩
    refine sg ?_
    refine hrl (sg ?_)
    refine nx ?_
    refine rt ?_
    refine f1 (g := sg ?_)
    exact ax [] ⟨congrArg A.bool (eqP_is p q).symm, rfl⟩
  · refine hrl ?_
    simp only [go_sem, Nat.reduceAdd, Nat.reduceSub, Nat.reduceMul, Nat.reduceLT, Nat.reduceLeDiff, Nat.reduceEqDiff, reduceIte, reduceCtorEq, if_true, if_false, Int.reduceEq, Int.reduceLT, Int.reduceLE, Int.reduceAdd, Int.reduceSub, Int.reduceMul, Int.reduceNeg, Int.reduceToNat, decide_true, decide_false, Nat.reduceBEq, hf]
    refine nx ?_
    refine rt ?_
    refine f1 (g := sg ?_)
    have hf' : flE p q = false := by simpa [flE] using hf
    exact ax [] ⟨congrArg A.bool (by rw [eqP_is, hf', Bool.false_and]), rfl⟩
theorem c23 : ∀ (p q : Pr), Sm p → Sm q → PC Tryz.prog 23 [aPr p, aPr q] [] (fun r bx => r = A.bool (eqP p q) ∧ bx = []) := by
  refine Pr.by_kids fun p ih q hp hq => ?_
  have hl := hp.len
  have hm := hq.len
  refine enter (rs := [.tmp 4]) mx Tryz.func23 Tryz.ntmps23 fun Q0 hQ0 => ?_
  refine sq fun _ _ => ?_
  refine rg (sg ?_)
  refine nx ?_
  refine sq fun _ _ => ?_
  refine sq fun _ _ => ?_
  refine rg (sg ?_)
  refine cl [] (sg ?_)
  refine (c42 _ _ _ _ _ _ _ _ _ _ _ _ _ _ _ _ _ _).mono ?_
  rintro r bx ⟨rfl, rfl⟩
  refine sg ?_
  refine nx ?_
  refine cb (fun h0 => ?_) (fun h0 => ?_)
  · have hne : eqP p q = false := by
      rw [← Bool.not_eq_true, eqP_iff]
      rintro rfl
      simp [flatB] at h0
    refine sq fun _ _ => ?_
    refine rg (sg ?_)
    refine nx ?_
    refine rt (sg ?_)
    refine f1 (g := sg ?_)
    exact ax [] ⟨congrArg A.bool hne.symm, rfl⟩
  · have h1 : flE p q = true ∧ p.kids.length = q.kids.length := by
      simp at h0
      exact ⟨h0.1, by omega⟩
    have hlm := h1.2
    refine sk (sg ?_)
    refine nx ?_
    refine sq fun _ _ => ?_
    refine sq fun _ _ => ?_
    refine rg (sg ?_)
    refine nx ?_
    refine bl ?_
    refine lp [2, 3, 5] [0, 1] (fun k σ => ∃ i : Nat, k = p.kids.length - i ∧ i ≤ p.kids.length ∧ (∀ (j : Nat) (h1 : j < p.kids.length) (h2 : j < q.kids.length), j < i → p.kids[j] = q.kids[j]) ∧ σ = ⟨38, 0, [(2, xPtr 0 0), (3, xPtr 1 0), (5, A.int .i64 i)], [B.var [xI p.op, xS p.col, xI p.cmp, xB p.val.nl, xI p.val.i, xS p.val.s, xI p.kind, xS p.pat, L.c (C.sl p.kids.length 9 (elemsOf (List.map cPr p.kids)))] 27, B.var [xI q.op, xS q.col, xI q.cmp, xB q.val.nl, xI q.val.i, xS q.val.s, xI q.kind, xS q.pat, L.c (C.sl q.kids.length 9 (elemsOf (List.map cPr q.kids)))] 27]⟩) p.kids.length ?_ ?_
    · exact ⟨0, by omega, by omega, fun j h h2 h3 => absurd h3 (Nat.not_lt_zero _), keq⟩
    · rintro k σ' ⟨i, hk, hi, hw, rfl⟩ Q1 hQ1
      refine sq fun _ _ => ?_
      refine sq fun _ _ => ?_
      refine rg (sg ?_)
      refine nx ?_
      refine cb (fun h => ?_) (fun h => ?_)
      · have hin : i < p.kids.length := by omega
        have him : i < q.kids.length := by omega
        have hwi : IntKind.i64.wrap ((i : Int) + 1) = ((i + 1 : Nat) : Int) := wrap_succ (by omega)
        have he := el_at (f := cPr) hin
        have he2 := el_at (f := cPr) him
        refine sk (sg ?_)
        refine nx ?_
        refine sq fun _ _ => ?_
        refine bl ?_
        refine sq fun _ _ => ?_
        refine dr [.take 0, .take 1, .take 2, .take 3, .take 4, .take 5, .take 6, .take 7, .take 8, .take 9, .one 10, .pure 11] [] (sg ?_)
        refine and_assoc.2 ?_
        refine And.intro (by first | assumption | omega | rfl | trivial) ?_
        refine And.intro (by first | assumption | omega | rfl | trivial) ?_
        refine and_assoc.2 ?_
        refine And.intro (by first | assumption | omega | rfl | trivial) ?_
        refine And.intro (by first | assumption | omega | rfl | trivial) ?_
        refine cl [] (sg ?_)
        simp (disch := omega) only [el_at]
        refine sg ?_
        refine (ih p.kids[i] (List.getElem_mem hin) q.kids[i] (hp.kid _ (List.getElem_mem hin)) (hq.kid _ (List.getElem_mem him))).mono ?_
        rintro r bx ⟨rfl, rfl⟩
        refine sg ?_
        refine nx ?_
        refine cb (fun h2 => ?_) (fun h2 => ?_)
        · have hne : p.kids ≠ q.kids := fun e => by
            have h3 : p.kids[i] = q.kids[i] := getElem_congr_coll e
            rw [eqP_iff.2 h3] at h2
            cases h2
          have hx : eqP p q = false := by rw [eqP_is, eqPs_ne hne, Bool.and_false]
          refine sq fun _ _ => ?_
          refine rg (sg ?_)
          refine nx ?_
          refine rt (sg ?_)
          refine lr (g := sg ?_)
          refine f1 (g := sg ?_)
          exact ax [] ⟨congrArg A.bool hx.symm, rfl⟩
        · have h3 : p.kids[i] = q.kids[i] := by
            rw [Bool.not_eq_false] at h2
            exact eqP_iff.1 h2
          have hw2 : ∀ (j : Nat) (h1 : j < p.kids.length) (h2 : j < q.kids.length), j < i + 1 → p.kids[j] = q.kids[j] := by
            intro j h1 h2 h4
            by_cases hji : j = i
            · subst hji
              exact h3
            · exact hw j h1 h2 (by omega)
          refine sk (sg ?_)
          refine nx ?_
          refine rg (sg ?_)
          simp (disch := omega) only [wrap_succ]
          refine ln (p.kids.length - (i + 1)) [0, 1] ?_ ?_
          · omega
          exact ⟨i + 1, by omega, by omega, hw2, keq⟩
      · have hall : p.kids = q.kids := eqPs_at hlm fun j h1 h2 => hw j h1 h2 (by omega)
        have hx : eqP p q = true := by rw [eqP_is, h1.1, hall, eqPs_self]; rfl
        refine xt (sg ?_)
        refine lx (g := sg ?_)
        refine nx ?_
        refine sq fun _ _ => ?_
        refine rg (sg ?_)
        refine nx ?_
        refine rt ?_
        refine f1 (g := sg ?_)
        exact ax [] ⟨congrArg A.bool hx.symm, rfl⟩
end
section
set_option maxRecDepth 100000
/-! Are two rows, two queries the same? -/
instance : DecidableEq Ae := fun a b => decidable_of_iff (a.op = b.op ∧ a.col = b.col) ⟨fun h => by cases a; cases b; simp_all, fun h => by subst h; exact ⟨rfl, rfl⟩⟩
theorem ae_iff {a b : Ae} : a = b ↔ a.op = b.op ∧ a.col = b.col := ⟨fun h => by subst h; exact ⟨rfl, rfl⟩, fun h => by cases a; cases b; simp_all⟩
theorem c19 (l m : List ByteArray) (hl : l.length ≤ 1000) (hm : m.length ≤ 1000) : PC Tryz.prog 19 [xRow l.length 1 (elemsOf (l.map cSt)), xRow m.length 1 (elemsOf (m.map cSt))] [] (fun r bx => r = A.bool (decide (l = m)) ∧ bx = []) := by
  refine enter (rs := [.tmp 4]) mx Tryz.func19 Tryz.ntmps19 fun Q0 hQ0 => ?_
  refine sq fun _ _ => ?_
  refine rg (sg ?_)
  refine nx ?_
  refine sq fun _ _ => ?_
  refine sq fun _ _ => ?_
  refine rg (sg ?_)
  refine nx ?_
  refine cb (fun h0 => ?_) (fun h0 => ?_)
  · refine sq fun _ _ => ?_
    refine rg (sg ?_)
    refine nx ?_
    refine rt (sg ?_)
    refine f1 (g := sg ?_)
    exact ax [] ⟨congrArg A.bool (decide_eq_false fun h => h0 (by rw [h])).symm, rfl⟩
  · have hlm : l.length = m.length := by omega
    refine sk (sg ?_)
    refine nx ?_
    refine sq fun _ _ => ?_
    refine sq fun _ _ => ?_
    refine rg (sg ?_)
    refine nx ?_
    refine bl ?_
    refine lp [0, 1, 12, 13] [] (fun k σ => ∃ i : Nat, k = l.length - i ∧ i ≤ l.length ∧ (∀ (j : Nat) (h1 : j < l.length) (h2 : j < m.length), j < i → l[j] = m[j]) ∧ σ = ⟨26, 0, [(0, xRow l.length 1 (elemsOf (List.map cSt l))), (1, xRow m.length 1 (elemsOf (List.map cSt m))), (12, A.int .i64 l.length), (13, A.int .i64 i)], []⟩) l.length ?_ ?_
    · exact ⟨0, by omega, by omega, fun j h h2 h3 => absurd h3 (Nat.not_lt_zero _), keq⟩
    · rintro k σ' ⟨i, hk, hi, hw, rfl⟩ Q1 hQ1
      refine sq fun _ _ => ?_
      refine rg (sg ?_)
      refine nx ?_
      refine sq fun _ _ => ?_
      refine cb (fun h => ?_) (fun h => ?_)
      · have hin : i < l.length := by omega
        have him : i < m.length := by omega
        have hwi : IntKind.i64.wrap ((i : Int) + 1) = ((i + 1 : Nat) : Int) := wrap_succ (by omega)
        have he := el_at (f := cSt) hin
        have he2 := el_at (f := cSt) him
        refine sk (sg ?_)
        refine nx ?_
        refine sq fun _ _ => ?_
        refine bl ?_
        refine sq fun _ _ => ?_
        refine rg (sg ?_)
        refine nx ?_
        refine sq fun _ _ => ?_
        refine dr [.take 0, .take 1, .take 2, .take 3, .take 4, .take 5, .take 6, .take 7, .take 8] [] (sg ?_)
        refine and_assoc.2 ?_
        refine And.intro (by first | assumption | omega | rfl | trivial) ?_
        refine And.intro (by first | assumption | omega | rfl | trivial) ?_
        refine and_assoc.2 ?_
        refine And.intro (by first | assumption | omega | rfl | trivial) ?_
        refine And.intro (by first | assumption | omega | rfl | trivial) ?_
        simp (disch := omega) only [el_at]
        refine sg ?_
        refine nx ?_
        refine cb (fun h2 => ?_) (fun h2 => ?_)
        · have hne : l ≠ m := fun e => h2 (by subst e; rfl)
          refine sq fun _ _ => ?_
          refine rg (sg ?_)
          refine nx ?_
          refine rt (sg ?_)
          refine lr (g := sg ?_)
          refine f1 (g := sg ?_)
          exact ax [] ⟨congrArg A.bool (decide_eq_false hne).symm, rfl⟩
        · have h3 : l[i] = m[i] := Classical.byContradiction fun h => h2 h
          have hw2 : ∀ (j : Nat) (h1 : j < l.length) (h2 : j < m.length), j < i + 1 → l[j] = m[j] := by
            intro j h1 h2 h4
            by_cases hji : j = i
            · subst hji
              exact h3
            · exact hw j h1 h2 (by omega)
          refine sk (sg ?_)
          refine nx ?_
          refine rg (sg ?_)
          simp (disch := omega) only [wrap_succ]
          refine ln (l.length - (i + 1)) [] ?_ ?_
          · omega
          exact ⟨i + 1, by omega, by omega, hw2, keq⟩
      · have hall : l = m := List.ext_getElem hlm fun j h1 h2 => hw j h1 h2 (by omega)
        refine xt (sg ?_)
        refine lx (g := sg ?_)
        refine nx ?_
        refine sq fun _ _ => ?_
        refine rg (sg ?_)
        refine nx ?_
        refine rt ?_
        refine f1 (g := sg ?_)
        exact ax [] ⟨congrArg A.bool (decide_eq_true hall).symm, rfl⟩
theorem c20 (l m : List Ae) (hl : l.length ≤ 1000) (hm : m.length ≤ 1000) : PC Tryz.prog 20 [xRow l.length 2 (elemsOf (l.map cAe)), xRow m.length 2 (elemsOf (m.map cAe))] [] (fun r bx => r = A.bool (decide (l = m)) ∧ bx = []) := by
  refine enter (rs := [.tmp 4]) mx Tryz.func20 Tryz.ntmps20 fun Q0 hQ0 => ?_
  refine sq fun _ _ => ?_
  refine rg (sg ?_)
  refine nx ?_
  refine sq fun _ _ => ?_
  refine sq fun _ _ => ?_
  refine rg (sg ?_)
  refine nx ?_
  refine cb (fun h0 => ?_) (fun h0 => ?_)
  · refine sq fun _ _ => ?_
    refine rg (sg ?_)
    refine nx ?_
    refine rt (sg ?_)
    refine f1 (g := sg ?_)
    exact ax [] ⟨congrArg A.bool (decide_eq_false fun h => h0 (by rw [h])).symm, rfl⟩
  · have hlm : l.length = m.length := by omega
    refine sk (sg ?_)
    refine nx ?_
    refine sq fun _ _ => ?_
    refine sq fun _ _ => ?_
    refine rg (sg ?_)
    refine nx ?_
    refine bl ?_
    refine lp [0, 1, 12, 13] [] (fun k σ => ∃ i : Nat, k = l.length - i ∧ i ≤ l.length ∧ (∀ (j : Nat) (h1 : j < l.length) (h2 : j < m.length), j < i → l[j] = m[j]) ∧ σ = ⟨26, 0, [(0, xRow l.length 2 (elemsOf (List.map cAe l))), (1, xRow m.length 2 (elemsOf (List.map cAe m))), (12, A.int .i64 l.length), (13, A.int .i64 i)], []⟩) l.length ?_ ?_
    · exact ⟨0, by omega, by omega, fun j h h2 h3 => absurd h3 (Nat.not_lt_zero _), keq⟩
    · rintro k σ' ⟨i, hk, hi, hw, rfl⟩ Q1 hQ1
      refine sq fun _ _ => ?_
      refine rg (sg ?_)
      refine nx ?_
      refine sq fun _ _ => ?_
      refine cb (fun h => ?_) (fun h => ?_)
      · have hin : i < l.length := by omega
        have him : i < m.length := by omega
        have hwi : IntKind.i64.wrap ((i : Int) + 1) = ((i + 1 : Nat) : Int) := wrap_succ (by omega)
        have he := el_at (f := cAe) hin
        have he2 := el_at (f := cAe) him
        refine sk (sg ?_)
        refine nx ?_
        refine sq fun _ _ => ?_
        refine bl ?_
        refine sq fun _ _ => ?_
        refine rg (sg ?_)
        refine nx ?_
        refine sq fun _ _ => ?_
        refine dr [.take 0, .take 1, .take 2, .take 3, .take 4, .take 5, .take 6, .take 7, .take 8] [] (sg ?_)
        refine and_assoc.2 ?_
        refine And.intro (by first | assumption | omega | rfl | trivial) ?_
        refine And.intro (by first | assumption | omega | rfl | trivial) ?_
        refine and_assoc.2 ?_
        refine And.intro (by first | assumption | omega | rfl | trivial) ?_
        refine And.intro (by first | assumption | omega | rfl | trivial) ?_
        refine and_assoc.2 ?_
        simp (disch := omega) only [el_at]
        refine sg ?_
        refine nx ?_
        refine cb (fun h2 => ?_) (fun h2 => ?_)
        · have hne : l ≠ m := fun e => by subst e; simp at h2
          refine sq fun _ _ => ?_
          refine rg (sg ?_)
          refine nx ?_
          refine rt (sg ?_)
          refine lr (g := sg ?_)
          refine f1 (g := sg ?_)
          exact ax [] ⟨congrArg A.bool (decide_eq_false hne).symm, rfl⟩
        · have h3 : l[i] = m[i] := by
            rw [Bool.not_eq_false, Bool.and_eq_true, decide_eq_true_eq, decide_eq_true_eq] at h2
            exact ae_iff.2 h2
          have hw2 : ∀ (j : Nat) (h1 : j < l.length) (h2 : j < m.length), j < i + 1 → l[j] = m[j] := by
            intro j h1 h2 h4
            by_cases hji : j = i
            · subst hji
              exact h3
            · exact hw j h1 h2 (by omega)
          refine sk (sg ?_)
          refine nx ?_
          refine rg (sg ?_)
          simp (disch := omega) only [wrap_succ]
          refine ln (l.length - (i + 1)) [] ?_ ?_
          · omega
          exact ⟨i + 1, by omega, by omega, hw2, keq⟩
      · have hall : l = m := List.ext_getElem hlm fun j h1 h2 => hw j h1 h2 (by omega)
        refine xt (sg ?_)
        refine lx (g := sg ?_)
        refine nx ?_
        refine sq fun _ _ => ?_
        refine rg (sg ?_)
        refine nx ?_
        refine rt ?_
        refine f1 (g := sg ?_)
        exact ax [] ⟨congrArg A.bool (decide_eq_true hall).symm, rfl⟩
/-- Are two queries the same? -/
noncomputable def eqQ (a b : Qu) : Bool := decide (a.table = b.table) && decide (a.by_ = b.by_) && decide (a.cols = b.cols) && decide (a.aggs = b.aggs) && eqP a.whr b.whr
theorem eqQ_iff {a b : Qu} : eqQ a b = true ↔ a = b := by
  unfold eqQ
  simp only [Bool.and_eq_true, decide_eq_true_eq, eqP_iff]
  constructor
  · rintro ⟨⟨⟨⟨h1, h2⟩, h3⟩, h4⟩, h5⟩
    cases a; cases b; simp_all
  · rintro rfl
    simp
theorem eqQ_f {a b : Qu} (h : ¬ a = b) : eqQ a b = false := by
  cases e : eqQ a b
  · rfl
  · exact absurd (eqQ_iff.1 e) h
theorem eqQ_w {a b : Qu} (c1 : a.table = b.table) (c2 : a.by_ = b.by_) (c3 : a.cols = b.cols) (c4 : a.aggs = b.aggs) : eqQ a b = eqP a.whr b.whr := by
  unfold eqQ
  rw [decide_eq_true c1, decide_eq_true c2, decide_eq_true c3, decide_eq_true c4, Bool.true_and, Bool.true_and, Bool.true_and, Bool.true_and]
set_option maxHeartbeats 8000000 in
theorem c9 (a b : Qu) (ha : SmQ a) (hb : SmQ b) : PC Tryz.prog 9 [aQu a, aQu b] [] (fun r bx => r = A.bool (eqQ a b) ∧ bx = []) := by
  have hac : a.cols.length ≤ 1000 := Nat.le_trans ha.cols (by omega)
  have hbc : b.cols.length ≤ 1000 := Nat.le_trans hb.cols (by omega)
  have haa : a.aggs.length ≤ 1000 := Nat.le_trans ha.aggs (by omega)
  have hba : b.aggs.length ≤ 1000 := Nat.le_trans hb.aggs (by omega)
  have haw := ha.whr
  have hbw := hb.whr
  refine enter (rs := [.tmp 4]) mx Tryz.func9 Tryz.ntmps9 fun Q0 hQ0 => ?_
  refine sq fun _ _ => ?_
  refine rg (sg ?_)
  refine nx ?_
  refine sq fun _ _ => ?_
  by_cases c1 : a.table = b.table
  · by_cases c2 : a.by_ = b.by_
    · refine rgs 18 ?_
      simp only [go_sem, Nat.reduceAdd, Nat.reduceSub, Nat.reduceMul, Nat.reduceLT, Nat.reduceLeDiff, Nat.reduceEqDiff, reduceIte, reduceCtorEq, if_true, if_false, Int.reduceEq, Int.reduceLT, Int.reduceLE, Int.reduceAdd, Int.reduceSub, Int.reduceMul, Int.reduceNeg, Int.reduceToNat, decide_true, decide_false, Nat.reduceBEq, c1, c2, List.take_succ_cons, List.take_zero, List.drop_succ_cons, List.drop_zero]
      refine cl [] (sg ?_)
      refine (c19 _ _ (by first | assumption | omega | trivial | rfl) (by first | assumption | omega | trivial | rfl)).mono ?_
      rintro r bx ⟨rfl, rfl⟩
      refine sg ?_
      refine hr 7 (sgt ?_)
      simp only [undef]
      refine ⟨fun c3 => ⟨c3, ?_⟩, fun c3 => ?_⟩
      · simp only [go_sem, Nat.reduceAdd, Nat.reduceSub, Nat.reduceMul, Nat.reduceLT, Nat.reduceLeDiff, Nat.reduceEqDiff, reduceIte, reduceCtorEq, if_true, if_false, Int.reduceEq, Int.reduceLT, Int.reduceLE, Int.reduceAdd, Int.reduceSub, Int.reduceMul, Int.reduceNeg, Int.reduceToNat, decide_true, decide_false, Nat.reduceBEq, c3]
        refine cl [] (sg ?_)
        refine (c20 _ _ (by first | assumption | omega | trivial | rfl) (by first | assumption | omega | trivial | rfl)).mono ?_
        rintro r bx ⟨rfl, rfl⟩
        refine sg ?_
        refine hr 7 (sgt ?_)
        simp only [undef]
        refine ⟨fun c4 => ⟨c4, ?_⟩, fun c4 => ?_⟩
        · simp only [go_sem, Nat.reduceAdd, Nat.reduceSub, Nat.reduceMul, Nat.reduceLT, Nat.reduceLeDiff, Nat.reduceEqDiff, reduceIte, reduceCtorEq, if_true, if_false, Int.reduceEq, Int.reduceLT, Int.reduceLE, Int.reduceAdd, Int.reduceSub, Int.reduceMul, Int.reduceNeg, Int.reduceToNat, decide_true, decide_false, Nat.reduceBEq, c4]
          refine cl [] (sg ?_)
          refine (c21 _ _ (by first | assumption | omega | trivial | rfl) (by first | assumption | omega | trivial | rfl)).mono ?_
          rintro r bx ⟨rfl, rfl⟩
          refine sg ?_
          refine hrl (sg ?_)
          refine nx ?_
          refine rt ?_
          refine f1 (g := sg ?_)
          exact ax [] ⟨congrArg A.bool (eqQ_w c1 c2 c3 c4).symm, rfl⟩
        · refine hrl ?_
          simp only [go_sem, Nat.reduceAdd, Nat.reduceSub, Nat.reduceMul, Nat.reduceLT, Nat.reduceLeDiff, Nat.reduceEqDiff, reduceIte, reduceCtorEq, if_true, if_false, Int.reduceEq, Int.reduceLT, Int.reduceLE, Int.reduceAdd, Int.reduceSub, Int.reduceMul, Int.reduceNeg, Int.reduceToNat, decide_true, decide_false, Nat.reduceBEq, c4]
          refine nx ?_
          refine rt ?_
          refine f1 (g := sg ?_)
          exact ax [] ⟨congrArg A.bool (eqQ_f fun e => c4 (by rw [e])).symm, rfl⟩
      · refine hrl ?_
        simp only [go_sem, Nat.reduceAdd, Nat.reduceSub, Nat.reduceMul, Nat.reduceLT, Nat.reduceLeDiff, Nat.reduceEqDiff, reduceIte, reduceCtorEq, if_true, if_false, Int.reduceEq, Int.reduceLT, Int.reduceLE, Int.reduceAdd, Int.reduceSub, Int.reduceMul, Int.reduceNeg, Int.reduceToNat, decide_true, decide_false, Nat.reduceBEq, c3]
        refine nx ?_
        refine rt ?_
        refine f1 (g := sg ?_)
        refine And.intro (by first | assumption | omega | rfl | trivial) ?_
        exact ax [] ⟨congrArg A.bool (eqQ_f fun e => c3 (by rw [e])).symm, rfl⟩
    · refine rg ?_
      simp only [go_sem, Nat.reduceAdd, Nat.reduceSub, Nat.reduceMul, Nat.reduceLT, Nat.reduceLeDiff, Nat.reduceEqDiff, reduceIte, reduceCtorEq, if_true, if_false, Int.reduceEq, Int.reduceLT, Int.reduceLE, Int.reduceAdd, Int.reduceSub, Int.reduceMul, Int.reduceNeg, Int.reduceToNat, decide_true, decide_false, Nat.reduceBEq, c1, c2]
      simp only [undef]
      refine sg ?_
      refine nx ?_
      refine rt ?_
      refine f1 (g := sg ?_)
      exact ax [] ⟨congrArg A.bool (eqQ_f fun e => c2 (by rw [e])).symm, rfl⟩
  · refine rg ?_
    simp only [go_sem, Nat.reduceAdd, Nat.reduceSub, Nat.reduceMul, Nat.reduceLT, Nat.reduceLeDiff, Nat.reduceEqDiff, reduceIte, reduceCtorEq, if_true, if_false, Int.reduceEq, Int.reduceLT, Int.reduceLE, Int.reduceAdd, Int.reduceSub, Int.reduceMul, Int.reduceNeg, Int.reduceToNat, decide_true, decide_false, Nat.reduceBEq, c1]
    simp only [undef]
    refine sg ?_
    refine nx ?_
    refine rt ?_
    refine f1 (g := sg ?_)
    exact ax [] ⟨congrArg A.bool (eqQ_f fun e => c1 (by rw [e])).symm, rfl⟩
set_option maxHeartbeats 8000000 in
theorem c10 (a b : Qu) (ha : SmQ a) (hb : SmQ b) : PC Tryz.prog 10 [aQu a, aQu b] [] (fun r bx => r = A.bool (eqQ a b) ∧ bx = []) := by
  have hac : a.cols.length ≤ 1000 := Nat.le_trans ha.cols (by omega)
  have hbc : b.cols.length ≤ 1000 := Nat.le_trans hb.cols (by omega)
  have haa : a.aggs.length ≤ 1000 := Nat.le_trans ha.aggs (by omega)
  have hba : b.aggs.length ≤ 1000 := Nat.le_trans hb.aggs (by omega)
  have haw := ha.whr
  have hbw := hb.whr
  refine enter (rs := [.tmp 4]) mx Tryz.func10 Tryz.ntmps10 fun Q0 hQ0 => ?_
  refine sq fun _ _ => ?_
  refine rg (sg ?_)
  refine nx ?_
  refine sq fun _ _ => ?_
  refine sq fun _ _ => ?_
  by_cases c1 : a.table = b.table
  · by_cases c2 : a.by_ = b.by_
    · refine rgs 18 ?_
      simp only [go_sem, Nat.reduceAdd, Nat.reduceSub, Nat.reduceMul, Nat.reduceLT, Nat.reduceLeDiff, Nat.reduceEqDiff, reduceIte, reduceCtorEq, if_true, if_false, Int.reduceEq, Int.reduceLT, Int.reduceLE, Int.reduceAdd, Int.reduceSub, Int.reduceMul, Int.reduceNeg, Int.reduceToNat, decide_true, decide_false, Nat.reduceBEq, c1, c2, List.take_succ_cons, List.take_zero, List.drop_succ_cons, List.drop_zero]
      refine cl [] (sg ?_)
      refine (c22 _ _ (by first | assumption | omega | trivial | rfl) (by first | assumption | omega | trivial | rfl)).mono ?_
      rintro r bx ⟨rfl, rfl⟩
      refine sg ?_
      refine hr 8 (sgt ?_)
      simp only [undef]
      by_cases c3 : a.cols = b.cols
      · simp only [go_sem, Nat.reduceAdd, Nat.reduceSub, Nat.reduceMul, Nat.reduceLT, Nat.reduceLeDiff, Nat.reduceEqDiff, reduceIte, reduceCtorEq, if_true, if_false, Int.reduceEq, Int.reduceLT, Int.reduceLE, Int.reduceAdd, Int.reduceSub, Int.reduceMul, Int.reduceNeg, Int.reduceToNat, decide_true, decide_false, Nat.reduceBEq, c3]
        refine cl [] (sg ?_)
        refine (c23 _ _ (by first | assumption | omega | trivial | rfl) (by first | assumption | omega | trivial | rfl)).mono ?_
        rintro r bx ⟨rfl, rfl⟩
        refine sg ?_
        refine hrl (sg ?_)
        refine nx ?_
        refine cb (fun h4 => ?_) (fun h4 => ?_)
        · have hne : eqQ a b = false := eqQ_f fun e => by
            subst e
            simp [show eqP a.whr a.whr = true from eqP_iff.2 rfl] at h4
          refine sq fun _ _ => ?_
          refine rg (sg ?_)
          refine nx ?_
          refine rt (sg ?_)
          refine f1 (g := sg ?_)
          exact ax [] ⟨congrArg A.bool hne.symm, rfl⟩
        · have h5 : eqP a.whr b.whr = true ∧ a.aggs.length = b.aggs.length := by
            cases he : eqP a.whr b.whr
            · rw [he] at h4
              simp at h4
            · rw [he] at h4
              simp at h4
              exact ⟨rfl, by omega⟩
          have hlm := h5.2
          refine sk (sg ?_)
          refine nx ?_
          refine sq fun _ _ => ?_
          refine sq fun _ _ => ?_
          refine rg (sg ?_)
          refine nx ?_
          refine bl ?_
          refine lp [2, 3, 5] [0, 1] (fun k σ => ∃ i : Nat, k = a.aggs.length - i ∧ i ≤ a.aggs.length ∧ (∀ (j : Nat) (h1 : j < a.aggs.length) (h2 : j < b.aggs.length), j < i → a.aggs[j] = b.aggs[j]) ∧ σ = ⟨61, 0, [(2, xPtr 0 0), (3, xPtr 1 0), (5, A.int .i64 i)], [.var [xS b.table, .c (.sl b.cols.length 1 (elemsOf (b.cols.map cSt))), xI a.whr.op, xS a.whr.col, xI a.whr.cmp, xB a.whr.val.nl, xI a.whr.val.i, xS a.whr.val.s, xI a.whr.kind, xS a.whr.pat, .c (.sl a.whr.kids.length 9 (elemsOf (a.whr.kids.map cPr))), .c (.sl a.aggs.length 2 (elemsOf (a.aggs.map cAe))), xS b.by_] 30, boxQ b]⟩) a.aggs.length ?_ ?_
          · exact ⟨0, by omega, by omega, fun j h h2 h3 => absurd h3 (Nat.not_lt_zero _), keq⟩
          · rintro k σ' ⟨i, hk, hi, hw, rfl⟩ Q1 hQ1
            refine sq fun _ _ => ?_
            refine sq fun _ _ => ?_
            refine rg (sg ?_)
            refine nx ?_
            refine cb (fun h => ?_) (fun h => ?_)
            · have hin : i < a.aggs.length := by omega
              have him : i < b.aggs.length := by omega
              have hwi : IntKind.i64.wrap ((i : Int) + 1) = ((i + 1 : Nat) : Int) := wrap_succ (by omega)
              have he := el_at (f := cAe) hin
              have he2 := el_at (f := cAe) him
              refine sk (sg ?_)
              refine nx ?_
              refine sq fun _ _ => ?_
              refine bl ?_
              refine sq fun _ _ => ?_
              refine dr [.take 0, .take 1, .take 2, .take 3, .take 4, .take 5, .take 6, .take 7, .take 8, .take 9, .take 10] [] (sg ?_)
              refine and_assoc.2 ?_
              refine And.intro (by first | assumption | omega | rfl | trivial) ?_
              refine And.intro (by first | assumption | omega | rfl | trivial) ?_
              refine and_assoc.2 ?_
              refine And.intro (by first | assumption | omega | rfl | trivial) ?_
              refine And.intro (by first | assumption | omega | rfl | trivial) ?_
              refine and_assoc.2 ?_
              simp (disch := omega) only [el_at]
              refine sg ?_
              refine nx ?_
              refine cb (fun h2 => ?_) (fun h2 => ?_)
              · have hne : eqQ a b = false := eqQ_f fun e => by subst e; simp at h2
                refine sq fun _ _ => ?_
                refine rg (sg ?_)
                refine nx ?_
                refine rt (sg ?_)
                refine lr (g := sg ?_)
                refine f1 (g := sg ?_)
                exact ax [] ⟨congrArg A.bool hne.symm, rfl⟩
              · have h3 : a.aggs[i] = b.aggs[i] := by
                  rw [Bool.not_eq_false, Bool.and_eq_true, decide_eq_true_eq, decide_eq_true_eq] at h2
                  exact ae_iff.2 h2
                have hw2 : ∀ (j : Nat) (h1 : j < a.aggs.length) (h2 : j < b.aggs.length), j < i + 1 → a.aggs[j] = b.aggs[j] := by
                  intro j h1 h2 h4
                  by_cases hji : j = i
                  · subst hji
                    exact h3
                  · exact hw j h1 h2 (by omega)
                refine sk (sg ?_)
                refine nx ?_
                refine rg (sg ?_)
                simp (disch := omega) only [wrap_succ]
                refine ln (a.aggs.length - (i + 1)) [0, 1] ?_ ?_
                · omega
                exact ⟨i + 1, by omega, by omega, hw2, keq⟩
            · have hall : a.aggs = b.aggs := List.ext_getElem hlm fun j h1 h2 => hw j h1 h2 (by omega)
              refine xt (sg ?_)
              refine lx (g := sg ?_)
              refine nx ?_
              refine sq fun _ _ => ?_
              refine rg (sg ?_)
              refine nx ?_
              refine rt ?_
              refine f1 (g := sg ?_)
              exact ax [] ⟨congrArg A.bool (by rw [eqQ_w c1 c2 c3 hall, h5.1]), rfl⟩
      · simp only [go_sem, Nat.reduceAdd, Nat.reduceSub, Nat.reduceMul, Nat.reduceLT, Nat.reduceLeDiff, Nat.reduceEqDiff, reduceIte, reduceCtorEq, if_true, if_false, Int.reduceEq, Int.reduceLT, Int.reduceLE, Int.reduceAdd, Int.reduceSub, Int.reduceMul, Int.reduceNeg, Int.reduceToNat, decide_true, decide_false, Nat.reduceBEq, c3]
        refine hrl (sg ?_)
        refine nx ?_
        refine ct (hx := ?_)
        refine sq fun _ _ => ?_
        refine rg (sg ?_)
        refine nx ?_
        refine rt (sg ?_)
        refine f1 (g := sg ?_)
        exact ax [] ⟨congrArg A.bool (eqQ_f fun e => c3 (by rw [e])).symm, rfl⟩
    · refine rg ?_
      simp only [go_sem, Nat.reduceAdd, Nat.reduceSub, Nat.reduceMul, Nat.reduceLT, Nat.reduceLeDiff, Nat.reduceEqDiff, reduceIte, reduceCtorEq, if_true, if_false, Int.reduceEq, Int.reduceLT, Int.reduceLE, Int.reduceAdd, Int.reduceSub, Int.reduceMul, Int.reduceNeg, Int.reduceToNat, decide_true, decide_false, Nat.reduceBEq, c1, c2]
      simp only [undef]
      refine sg ?_
      refine nx ?_
      refine ct (hx := ?_)
      refine sq fun _ _ => ?_
      refine rg (sg ?_)
      refine nx ?_
      refine rt (sg ?_)
      refine f1 (g := sg ?_)
      exact ax [] ⟨congrArg A.bool (eqQ_f fun e => c2 (by rw [e])).symm, rfl⟩
  · refine rg ?_
    simp only [go_sem, Nat.reduceAdd, Nat.reduceSub, Nat.reduceMul, Nat.reduceLT, Nat.reduceLeDiff, Nat.reduceEqDiff, reduceIte, reduceCtorEq, if_true, if_false, Int.reduceEq, Int.reduceLT, Int.reduceLE, Int.reduceAdd, Int.reduceSub, Int.reduceMul, Int.reduceNeg, Int.reduceToNat, decide_true, decide_false, Nat.reduceBEq, c1]
    simp only [undef]
    refine sg ?_
    refine nx ?_
    refine ct (hx := ?_)
    refine sq fun _ _ => ?_
    refine rg (sg ?_)
    refine nx ?_
    refine rt (sg ?_)
    refine f1 (g := sg ?_)
    exact ax [] ⟨congrArg A.bool (eqQ_f fun e => c1 (by rw [e])).symm, rfl⟩
end
section
set_option maxRecDepth 100000
/-! Unlike queries have unlike texts: the law walked. -/
theorem txQE {p q : Qu} (hp : Rg p.whr) (hq : Rg q.whr) (m1 : mayQ p = true) (m2 : mayQ q = true) : (decide ((if mayQ p = true then ofL (txQ p) else { data := #[] }) = if mayQ q = true then ofL (txQ q) else { data := #[] }) == eqQ p q) = true := by
  rw [if_pos m1, if_pos m2, beq_iff_eq, Bool.eq_iff_iff, decide_eq_true_eq, eqQ_iff]
  constructor
  · intro h
    exact txQ_inj m1 hp m2 hq (congrArg bsL h)
  · rintro rfl
    rfl
set_option maxHeartbeats 8000000 in
theorem c4 (a b : Qu) (hra : Rg a.whr) (hrb : Rg b.whr) : PC Tryz.prog 4 [aQu a, aQu b] [] (fun r bx => r = .bool true ∧ bx = []) := by
  refine enter (rs := [.tmp 4]) mx Tryz.func4 Tryz.ntmps4 fun Q0 hQ0 => ?_
  refine sq fun _ _ => ?_
  refine rg (sg ?_)
  refine nx ?_
  refine sq fun _ _ => ?_
  refine sq fun _ _ => ?_
  refine rgs 2 (sgt ?_)
  refine cl [] (sg ?_)
  refine (c5w a).mono ?_
  rintro r bx ⟨⟨x, rfl, hx⟩, rfl⟩
  refine sg ?_
  cases x
  · refine hr 4 (sgt ?_)
    refine hrl (sg ?_)
    refine nx ?_
    refine ct (hx := ?_)
    refine sq fun _ _ => ?_
    refine rg (sg ?_)
    refine cl [] (sg ?_)
    refine (c6).mono ?_
    rintro r bx ⟨rfl, rfl⟩
    refine sg ?_
    refine nx ?_
    refine rt (sg ?_)
    refine f1 (g := sg ?_)
    exact ax [] ⟨rfl, rfl⟩
  · have ha := hx rfl
    refine hr 4 (sgt ?_)
    refine cl [] (sg ?_)
    refine (c5w b).mono ?_
    rintro r bx ⟨⟨y, rfl, hy⟩, rfl⟩
    refine sg ?_
    cases y
    · refine hrl (sg ?_)
      refine nx ?_
      refine ct (hx := ?_)
      refine sq fun _ _ => ?_
      refine rg (sg ?_)
      refine cl [] (sg ?_)
      refine (c6).mono ?_
      rintro r bx ⟨rfl, rfl⟩
      refine sg ?_
      refine nx ?_
      refine rt (sg ?_)
      refine f1 (g := sg ?_)
      exact ax [] ⟨rfl, rfl⟩
    · have hb := hy rfl
      have hself : eqQ a a = true := eqQ_iff.2 rfl
      refine hrl (sg ?_)
      refine nx ?_
      refine cf (hy := ?_)
      refine sk (sg ?_)
      refine nx ?_
      refine sq fun _ _ => ?_
      refine sq fun _ _ => ?_
      refine dfs (.take 0 <| .take 1 <| .take 3 <| .take 4 <| .one 2 <| .one 5 <| .pure 6 <| .pure 7 <| .two 8 9 (.one 9 <| .one 10 <| .pure 11 <| .pure 12 <| .nil) (.one 8 <| .one 10 <| .pure 11 <| .pure 12 <| .nil)) [] ?_
      refine afs (sg ?_)
      refine afs (sg ?_)
      refine afs (sg ?_)
      refine afs (sg ?_)
      refine afs (sg ?_)
      refine cl [] (sg ?_)
      refine (c9 _ _ (by first | assumption | omega | trivial | rfl) (by first | assumption | omega | trivial | rfl)).mono ?_
      rintro r bx ⟨rfl, rfl⟩
      refine sg ?_
      refine afs (sg ?_)
      refine cl [] (sg ?_)
      refine (c10 _ _ (by first | assumption | omega | trivial | rfl) (by first | assumption | omega | trivial | rfl)).mono ?_
      rintro r bx ⟨rfl, rfl⟩
      refine sg ?_
      refine afs (sg ?_)
      refine afs (sg ?_)
      refine afs (sg ?_)
      refine ⟨?_, ?_⟩
      · refine afs (sg ?_)
        refine afs (sg ?_)
        refine cl [] (sg ?_)
        refine (c9 _ _ (by first | assumption | omega | trivial | rfl) (by first | assumption | omega | trivial | rfl)).mono ?_
        rintro r bx ⟨rfl, rfl⟩
        refine sg ?_
        refine afs (sg ?_)
        refine afs (sg ?_)
        refine afs (sg ?_)
        refine nx ?_
        rw [hself]
        refine cf (hy := ?_)
        refine sk (sg ?_)
        refine nx ?_
        refine sq fun _ _ => ?_
        refine sq fun _ _ => ?_
        refine rgs 2 (sgt ?_)
        refine cl [] (sg ?_)
        refine (c11 _ (by first | assumption | omega | trivial | rfl)).mono ?_
        rintro r bx ⟨rfl, rfl⟩
        refine sg ?_
        refine hr 4 (sgt ?_)
        simp only [undef]
        cases m1 : mayQ a
        · simp (disch := omega) only [el_at]
          refine sg ?_
          refine hrl (sg ?_)
          refine nx ?_
          refine ct (hx := ?_)
          refine sq fun _ _ => ?_
          refine rg (sg ?_)
          refine cl [] (sg ?_)
          refine (c6).mono ?_
          rintro r bx ⟨rfl, rfl⟩
          refine sg ?_
          refine nx ?_
          refine rt (sg ?_)
          refine f1 (g := sg ?_)
          exact ax [] ⟨rfl, rfl⟩
        · simp (disch := omega) only [el_at]
          refine sg ?_
          refine cl [] (sg ?_)
          refine (c11 _ (by first | assumption | omega | trivial | rfl)).mono ?_
          rintro r bx ⟨rfl, rfl⟩
          refine sg ?_
          refine hrl (sg ?_)
          refine nx ?_
          cases m2 : mayQ b
          · refine ct (hx := ?_)
            refine sq fun _ _ => ?_
            refine rg (sg ?_)
            refine cl [] (sg ?_)
            refine (c6).mono ?_
            rintro r bx ⟨rfl, rfl⟩
            refine sg ?_
            refine nx ?_
            refine rt (sg ?_)
            refine f1 (g := sg ?_)
            exact ax [] ⟨rfl, rfl⟩
          · have hE := txQE hra hrb m1 m2
            refine cf (hy := ?_)
            refine sk (sg ?_)
            refine nx ?_
            refine sq fun _ _ => ?_
            refine dr [.take 0, .take 2, .take 5, .take 6, .one 1, .one 3, .pure 4, .one 7, .pure 8, .pure 9, .one 10, .pure 11, .pure 12] [] (sg ?_)
            refine cl [] (sg ?_)
            refine (c7 _ (by first | assumption | omega | trivial | rfl) (by first | assumption | omega | trivial | rfl)).mono ?_
            rintro r bx ⟨rfl, rfl⟩
            refine sg ?_
            refine cl [] (sg ?_)
            refine (c7 _ (by first | assumption | omega | trivial | rfl) (by first | assumption | omega | trivial | rfl)).mono ?_
            rintro r bx ⟨rfl, rfl⟩
            refine sg ?_
            refine cl [] (sg ?_)
            refine (c10 _ _ (by first | assumption | omega | trivial | rfl) (by first | assumption | omega | trivial | rfl)).mono ?_
            rintro r bx ⟨rfl, rfl⟩
            refine sg ?_
            simp only [undef]
            simp only [go_sem, Nat.reduceAdd, Nat.reduceSub, Nat.reduceMul, Nat.reduceLT, Nat.reduceLeDiff, Nat.reduceEqDiff, reduceIte, reduceCtorEq, if_true, if_false, Int.reduceEq, Int.reduceLT, Int.reduceLE, Int.reduceAdd, Int.reduceSub, Int.reduceMul, Int.reduceNeg, Int.reduceToNat, decide_true, decide_false, Nat.reduceBEq, hE]
            refine cl [] (sg ?_)
            refine (c6).mono ?_
            rintro r bx ⟨rfl, rfl⟩
            refine sg ?_
            refine nx ?_
            refine rt ?_
            refine f1 (g := sg ?_)
            exact ax [] ⟨rfl, rfl⟩
      · refine afs (sg ?_)
        refine afs (sg ?_)
        refine cl [] (sg ?_)
        refine (c9 _ _ (by first | assumption | omega | trivial | rfl) (by first | assumption | omega | trivial | rfl)).mono ?_
        rintro r bx ⟨rfl, rfl⟩
        refine sg ?_
        refine afs (sg ?_)
        refine afs (sg ?_)
        refine afs (sg ?_)
        refine nx ?_
        rw [hself]
        refine cf (hy := ?_)
        refine sk (sg ?_)
        refine nx ?_
        refine sq fun _ _ => ?_
        refine sq fun _ _ => ?_
        refine rgs 2 (sgt ?_)
        refine cl [] (sg ?_)
        refine (c11 _ (by first | assumption | omega | trivial | rfl)).mono ?_
        rintro r bx ⟨rfl, rfl⟩
        refine sg ?_
        refine hr 4 (sgt ?_)
        simp only [undef]
        cases m1 : mayQ a
        · simp (disch := omega) only [el_at]
          refine sg ?_
          refine hrl (sg ?_)
          refine nx ?_
          refine ct (hx := ?_)
          refine sq fun _ _ => ?_
          refine rg (sg ?_)
          refine cl [] (sg ?_)
          refine (c6).mono ?_
          rintro r bx ⟨rfl, rfl⟩
          refine sg ?_
          refine nx ?_
          refine rt (sg ?_)
          refine f1 (g := sg ?_)
          exact ax [] ⟨rfl, rfl⟩
        · simp (disch := omega) only [el_at]
          refine sg ?_
          refine cl [] (sg ?_)
          refine (c11 _ (by first | assumption | omega | trivial | rfl)).mono ?_
          rintro r bx ⟨rfl, rfl⟩
          refine sg ?_
          refine hrl (sg ?_)
          refine nx ?_
          cases m2 : mayQ b
          · refine ct (hx := ?_)
            refine sq fun _ _ => ?_
            refine rg (sg ?_)
            refine cl [] (sg ?_)
            refine (c6).mono ?_
            rintro r bx ⟨rfl, rfl⟩
            refine sg ?_
            refine nx ?_
            refine rt (sg ?_)
            refine f1 (g := sg ?_)
            exact ax [] ⟨rfl, rfl⟩
          · have hE := txQE hra hrb m1 m2
            refine cf (hy := ?_)
            refine sk (sg ?_)
            refine nx ?_
            refine sq fun _ _ => ?_
            refine dr [.take 0, .take 2, .take 5, .take 6, .one 1, .one 3, .pure 4, .one 7, .pure 8, .pure 9, .one 10, .pure 11, .pure 12] [] (sg ?_)
            refine cl [] (sg ?_)
            refine (c7 _ (by first | assumption | omega | trivial | rfl) (by first | assumption | omega | trivial | rfl)).mono ?_
            rintro r bx ⟨rfl, rfl⟩
            refine sg ?_
            refine cl [] (sg ?_)
            refine (c7 _ (by first | assumption | omega | trivial | rfl) (by first | assumption | omega | trivial | rfl)).mono ?_
            rintro r bx ⟨rfl, rfl⟩
            refine sg ?_
            refine cl [] (sg ?_)
            refine (c10 _ _ (by first | assumption | omega | trivial | rfl) (by first | assumption | omega | trivial | rfl)).mono ?_
            rintro r bx ⟨rfl, rfl⟩
            refine sg ?_
            simp only [undef]
            simp only [go_sem, Nat.reduceAdd, Nat.reduceSub, Nat.reduceMul, Nat.reduceLT, Nat.reduceLeDiff, Nat.reduceEqDiff, reduceIte, reduceCtorEq, if_true, if_false, Int.reduceEq, Int.reduceLT, Int.reduceLE, Int.reduceAdd, Int.reduceSub, Int.reduceMul, Int.reduceNeg, Int.reduceToNat, decide_true, decide_false, Nat.reduceBEq, hE]
            refine cl [] (sg ?_)
            refine (c6).mono ?_
            rintro r bx ⟨rfl, rfl⟩
            refine sg ?_
            refine nx ?_
            refine rt ?_
            refine f1 (g := sg ?_)
            exact ax [] ⟨rfl, rfl⟩
end
section
open Go.ChangeShapes Go.WideShapes Go.ChangeAt
theorem prog_laid : laidOutB Tryz.prog = true := by kernel_rfl
theorem queryOne_call (q0 : Qu) (g0 : Rg q0.whr) (uc0 up0 ua0 : Value) (q1 : Qu) (g1 : Rg q1.whr) (uc1 up1 ua1 : Value) (w : World) (hs : Start w) (hg : ∀ g ∈ glIds, g < w.heap.size) (r0 : QuAt w q0 uc0 up0 ua0) (r1 : QuAt w q1 uc1 up1 ua1) : Calls Tryz.prog 4 #[.agg (vQu q0 uc0 up0 ua0).toArray, .agg (vQu q1 uc1 up1 ua1).toArray] w fun e w' => e = .returned (.bool true) ∧ Below w.heap.size w w' :=
  (c4 q0 q1 g0 g1).told w _ hs hg rfl fun j a h => by
    rcases j with _ | _ | j
    · obtain rfl := Option.some.inj h; exact ⟨_, rfl, RA_qu r0.1 r0.2.1 r0.2.2⟩
    · obtain rfl := Option.some.inj h; exact ⟨_, rfl, RA_qu r1.1 r1.2.1 r1.2.2⟩
    · cases h
set_option maxRecDepth 100000 in
theorem queryOne_lifted (os : Os) (started : os.Started) (H : Type) (enc : TypeId × Value → H) :
    ReturnsInHanded {} Tryz.checked os 4 .any (fun w args => (Rows.queryOneSpec.pre enc Tryz.prog Tryz.f4 [] false w args ∧ laidMetH Tryz.prog laidP w) ∧ sizedMet enc Tryz.prog Tryz.f4 (OpenSpec.ofChange Rows.queryOneSpec) false w args)
      (Rows.queryOneSpec.post enc Tryz.prog Tryz.f4 false true false false) := by
  refine handed_both (C := Tryz.checked) (X := fun w _ => laidMetH Tryz.prog laidP w) (fun _ _ _ hh h => h.of_heap hh) own started (by kernel_rfl) Tryz.func4
    (ChangeSpec.witness_shaped (enc := enc) (C := Tryz.checked) (os := os) (X := fun w _ => laidMetH Tryz.prog laidP w) false (World.laidAll Tryz.prog os laidP) #[.agg #[.string ⟨#[]⟩, .slice none 0 0, .int .i64 0, .string ⟨#[]⟩, .int .i64 0, .bool false, .int .i64 0, .string ⟨#[]⟩, .int .i64 0, .string ⟨#[]⟩, .slice none 0 0, .slice none 0 0, .string ⟨#[]⟩], .agg #[.string ⟨#[]⟩, .slice none 0 0, .int .i64 0, .string ⟨#[]⟩, .int .i64 0, .bool false, .int .i64 0, .string ⟨#[]⟩, .int .i64 0, .string ⟨#[]⟩, .slice none 0 0, .slice none 0 0, .string ⟨#[]⟩]] 8 (World.laidAll_os _ _ _)
      (World.shaped_of_ZipB (by kernel_rfl) (by kernel_rfl)) (by kernel_rfl) (by kernel_rfl) (by kernel_rfl)
      (by rw [MakeChecks.laidMetH_plain _ _ _ (by kernel_rfl)]; exact laidMet_laidAll _ (by kernel_rfl) (by kernel_rfl))) ?_
  intro W base args ds gs before hval0 hW hX hsh
  obtain ⟨hs, hg⟩ := startP hX hsh
  have hval : ∀ (j : Nat) t v, Tryz.f4.params[j]? = some t → args[j]? = some v → Value.okWide Tryz.prog W .any base t v := hval0
  have hW' := hW
  obtain ⟨p, q, hA0, hV, rfl, _, _⟩ := hW
  have hA : DataW.TrodAll enc Tryz.prog W 0 (fun _ => true) true Tryz.f4.params.toList args.toList ds p := hA0
  rw [Tryz.params4] at hA hval
  obtain ⟨v0, v1, d0, d1, p0, p1, rfl, rfl, rfl, h0, h1⟩ := trodAll_two hA
  obtain ⟨rfl, rfl⟩ := trodVars_none hV
  obtain ⟨cs0, rfl, _⟩ := okWide_struct Tryz.underlying30 (hval 0 30 v0 rfl rfl)
  have lt0 : ∀ x ∈ p0, x.block < W.heap.size := by obtain ⟨m, hm⟩ := h0; exact DataW.trod_lt m _ _ _ hm
  obtain ⟨cs1, rfl, _⟩ := okWide_struct Tryz.underlying30 (hval 1 30 v1 rfl rfl)
  have lt1 : ∀ x ∈ p1, x.block < W.heap.size := by obtain ⟨m, hm⟩ := h1; exact DataW.trod_lt m _ _ _ hm
  obtain ⟨q0, uc0, up0, ua0, e0, r0, g0⟩ : ∃ (q : Qu) (uc up ua : Value), cs0 = (vQu q uc up ua).toArray ∧ QuAt W q uc up ua ∧ Rg q.whr := by
    obtain ⟨m, hm⟩ := h0
    obtain ⟨q, uc, up, ua, hu, hr, hR⟩ := open_qu hm
    refine ⟨q, uc, up, ua, ?_, hr, hR⟩
    have h : cs0.toList = _ := hu
    cases cs0
    simp_all
  obtain ⟨q1, uc1, up1, ua1, e1, r1, g1⟩ : ∃ (q : Qu) (uc up ua : Value), cs1 = (vQu q uc up ua).toArray ∧ QuAt W q uc up ua ∧ Rg q.whr := by
    obtain ⟨m, hm⟩ := h1
    obtain ⟨q, uc, up, ua, hu, hr, hR⟩ := open_qu hm
    refine ⟨q, uc, up, ua, ?_, hr, hR⟩
    have h : cs1.toList = _ := hu
    cases cs1
    simp_all
  rw [e0] at h0 hW'
  rw [e1] at h1 hW'
  rw [e0, e1]
  simp only [List.append_nil] at hW'
  refine (queryOne_call q0 g0 uc0 up0 ua0 q1 g1 uc1 up1 ua1 W hs hg r0 r1).mono fun e W' ⟨he, hb⟩ => ?_
  subst he
  have hb0 := Below.trod prog_laid (by kernel_rfl) (of_decide_eq_true (by kernel_rfl)) h0 hb lt0
  have hb1 := Below.trod prog_laid (by kernel_rfl) (of_decide_eq_true (by kernel_rfl)) h1 hb lt1
  exact ⟨_, rfl, _, _, _, [], _, [], hW', trodAll_mk1 (shut_bool Tryz.underlying4 _), trodAll_cons_mk hb0 (trodAll_cons_mk hb1 trodAll_mk0), rfl, hb.frame _, fun h => by cases h⟩
theorem queryOne_holds : Rows.QueryOneSaid :=
  OpenClaim.holds_of_wide 4 Tryz.f4 rfl rfl rfl rfl rfl rfl rfl ⟨rfl, rfl, rfl, rfl, rfl⟩ rfl rfl rfl rfl rfl (by kernel_rfl) Tryz.func4 (by kernel_rfl)
    (of_decide_eq_true (by kernel_rfl)) (by unfold Func.isWrapper; first | (rw [if_pos (by decide +kernel)]; kernel_rfl) | (rw [if_neg (by decide +kernel)]; exact ⟨rfl, rfl⟩))
    (fun os started H enc _ => queryOne_lifted os started H enc)
theorem queryOne_card : Rows.QueryOneCardSaid :=
  Claim7.holds_tied_plain_at .later [] [.data, .data, .data, .data, .pinned] true (true, "bd66b6b087162ff1977260f7e4f9fdcf033d834a3d4fe94d88237f1265c2a011") false queryOne_holds (fun _ h => by cases h) (by kernel_rfl) (fun _ h => by cases h) queryOne_row_tie rfl ⟨rfl, rfl⟩ (by kernel_rfl) rfl
    (fun f fn hf hfn => by
      obtain rfl : f = 4 := Option.some.inj ((show Tryz.prog.funcNamed "firkin/firkinlaw18.QueryOne" = some 4 by kernel_rfl).symm.trans hf) |>.symm
      obtain rfl : fn = Tryz.f4 := (Option.some.inj (Tryz.func4.symm.trans hfn)).symm
      exact ⟨by kernel_rfl, fun j t ht => by
        rw [Tryz.params4] at ht
        have hm : t ∈ [30, 30] := by simpa using Array.mem_of_getElem? ht
        have hall : ([30, 30].all fun u => !Tryz.prog.wantsStandIn u) = true := by kernel_rfl
        exact (show Tryz.prog.wantsStandIn t = false by simpa using List.all_eq_true.1 hall t hm)⟩)
    (by kernel_rfl)
end
end Go.Proofs.YthinpbnnpelhhaaGreatDoor.V
