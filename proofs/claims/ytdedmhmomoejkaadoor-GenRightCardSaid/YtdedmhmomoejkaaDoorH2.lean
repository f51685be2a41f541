import Derived.Test.YtdedmhmomoejkaaDoorH1
namespace Go.Proofs.YtdedmhmomoejkaaDoor.V
open Go Go.RowKit Go.Proofs.YtdedmhmomoejkaaDoorW.PrintLast
open Go.Proofs
set_option linter.unusedVariables false
set_option linter.unusedSimpArgs false
attribute [local irreducible] awp
--IMP H1
set_option maxRecDepth 100000
attribute [go_sem] true_implies false_implies
theorem c79 (o : Int) (c : ByteArray) (m : Int) (v : Ce) (k : Int) (pt : ByteArray) (ks : List Pr) : PC Tryd.prog 79 [.agg (lc (cPr (.mk o c m v k pt ks))), .agg (lc (cPr (.mk o c m v k pt ks)))] [] (fun r bx => r = .one (.c (.v (.bool true))) ∧ bx = []) := by
  refine enter (rs := [.tmp 4]) mx Tryd.func79 Tryd.ntmps79 fun Q0 hQ0 => ?_
  simp only [cPr, lc, List.map_cons, List.map_nil]
  repeat first | refine nx ?_ | refine sq fun _ _ => ?_ | refine rg (sg ?_) | refine bl ?_ | refine sk (sg ?_) | refine xt (sg ?_) | refine lx (g := sg ?_) | refine ct (hx := ?_) | refine cf (hy := ?_) | refine lr (g := sg ?_) | refine rt (sg ?_) | refine rt ?_ | refine sk ?_ | refine xt ?_ | refine f1 (g := sg ?_) | refine f2 (g := sg ?_) | refine f3 (g := sg ?_) | refine And.intro (by first | assumption | omega) ?_
  exact ax [] ⟨rfl, rfl⟩
theorem c35 (o : Int) (c : ByteArray) (m : Int) (v : Ce) (k : Int) (pt : ByteArray) : PC Tryd.prog 35 [.agg (lc (cPr (.mk o c m v k pt []))), .agg (lc (cPr (.mk o c m v k pt [])))] [] (fun r bx => r = .one (.c (.v (.bool true))) ∧ bx = []) := by
  refine enter (rs := [.tmp 4]) mx Tryd.func35 Tryd.ntmps35 fun Q0 hQ0 => ?_
  simp only [cPr, lc, List.map_cons, List.map_nil]
  repeat first | refine nx ?_ | refine sq fun _ _ => ?_ | refine rg (sg ?_) | refine bl ?_ | refine sk (sg ?_) | refine xt (sg ?_) | refine lx (g := sg ?_) | refine ct (hx := ?_) | refine cf (hy := ?_) | refine lr (g := sg ?_) | refine rt (sg ?_) | refine rt ?_ | refine sk ?_ | refine xt ?_ | refine f1 (g := sg ?_) | refine f2 (g := sg ?_) | refine f3 (g := sg ?_) | refine And.intro (by first | assumption | omega) ?_
  refine cl [] (sg ?_)
  refine (c79 o c m v k pt []).mono ?_
  rintro r bx ⟨rfl, rfl⟩
  refine sg ?_
  repeat first | refine nx ?_ | refine sq fun _ _ => ?_ | refine rg (sg ?_) | refine bl ?_ | refine sk (sg ?_) | refine xt (sg ?_) | refine lx (g := sg ?_) | refine ct (hx := ?_) | refine cf (hy := ?_) | refine lr (g := sg ?_) | refine rt (sg ?_) | refine rt ?_ | refine sk ?_ | refine xt ?_ | refine f1 (g := sg ?_) | refine f2 (g := sg ?_) | refine f3 (g := sg ?_) | refine And.intro (by first | assumption | omega) ?_
  refine lp [2, 3, 5] [0, 1] (fun k' σ => σ = ⟨38, 0, [(2, .one (.ptr 0 0)), (3, .one (.ptr 1 0)), (5, .int .i64 0)], [.var ((cPr (.mk o c m v k pt [])).map L.c) 38, .var ((cPr (.mk o c m v k pt [])).map L.c) 38]⟩) 0 rfl ?_
  rintro k' σ' rfl Q1 hQ1
  simp only [cPr, lc, List.map_cons, List.map_nil, List.length_nil]
  repeat first | refine nx ?_ | refine sq fun _ _ => ?_ | refine rg (sg ?_) | refine bl ?_ | refine sk (sg ?_) | refine xt (sg ?_) | refine lx (g := sg ?_) | refine ct (hx := ?_) | refine cf (hy := ?_) | refine lr (g := sg ?_) | refine rt (sg ?_) | refine rt ?_ | refine sk ?_ | refine xt ?_ | refine f1 (g := sg ?_) | refine f2 (g := sg ?_) | refine f3 (g := sg ?_) | refine And.intro (by first | assumption | omega) ?_
  exact ax [] ⟨rfl, rfl⟩
set_option maxHeartbeats 2000000 in
theorem c36 (q1 : ByteArray) (q2 : List ByteArray) (o : Int) (c : ByteArray) (m : Int) (v : Ce) (k : Int) (pt : ByteArray) (l : List Ae) (q5 : ByteArray) (hl : l.length ≤ 1000) (h2 : q2.length ≤ 1000) : PC Tryd.prog 36 [.agg (lc (cQu ⟨q1, q2, .mk o c m v k pt [], l, q5⟩)), .agg (lc (cQu ⟨q1, q2, .mk o c m v k pt [], l, q5⟩))] [] (fun r bx => r = .one (.c (.v (.bool true))) ∧ bx = []) := by
  refine enter (rs := [.tmp 4]) mx Tryd.func36 Tryd.ntmps36 fun Q0 hQ0 => ?_
  simp only [cQu, cPr, lc, rowA, List.map_cons, List.map_nil, List.map_append, List.cons_append, List.nil_append, List.length_nil]
  repeat first | refine nx ?_ | refine sq fun _ _ => ?_ | refine rg (sg ?_) | refine bl ?_ | refine sk (sg ?_) | refine xt (sg ?_) | refine lx (g := sg ?_) | refine ct (hx := ?_) | refine cf (hy := ?_) | refine lr (g := sg ?_) | refine rt (sg ?_) | refine rt ?_ | refine sk ?_ | refine xt ?_ | refine f1 (g := sg ?_) | refine f2 (g := sg ?_) | refine f3 (g := sg ?_) | refine And.intro (by first | assumption | omega) ?_
  refine cl [] (sg ?_)
  refine (c80 q2 h2).mono ?_
  rintro r bx ⟨rfl, rfl⟩
  refine sg ?_
  refine cl [] (sg ?_)
  refine (c35 o c m v k pt).mono ?_
  rintro r bx ⟨rfl, rfl⟩
  refine sg ?_
  repeat first | refine nx ?_ | refine sq fun _ _ => ?_ | refine rg (sg ?_) | refine bl ?_ | refine sk (sg ?_) | refine xt (sg ?_) | refine lx (g := sg ?_) | refine ct (hx := ?_) | refine cf (hy := ?_) | refine lr (g := sg ?_) | refine rt (sg ?_) | refine rt ?_ | refine sk ?_ | refine xt ?_ | refine f1 (g := sg ?_) | refine f2 (g := sg ?_) | refine f3 (g := sg ?_) | refine And.intro (by first | assumption | omega) ?_
  refine lp [2, 3, 5] [0, 1] (fun k' σ => ∃ i : Nat, k' = l.length - i ∧ i ≤ l.length ∧ σ = ⟨61, 0, [(2, .one (.ptr 0 0)), (3, .one (.ptr 1 0)), (5, .int .i64 i)], [.var (lc (cQu ⟨q1, q2, .mk o c m v k pt [], l, q5⟩)) 42, .var (lc (cQu ⟨q1, q2, .mk o c m v k pt [], l, q5⟩)) 42]⟩) l.length ?_ ?_
  · exact ⟨0, by omega, by omega, rfl⟩
  · rintro k' σ' ⟨i, hk, hi, rfl⟩ Q1 hQ1
    simp only [cQu, cPr, lc, rowA, List.map_cons, List.map_nil, List.map_append, List.cons_append, List.nil_append, List.length_nil]
    repeat first | refine nx ?_ | refine sq fun _ _ => ?_ | refine rg (sg ?_) | refine bl ?_ | refine sk (sg ?_) | refine xt (sg ?_) | refine lx (g := sg ?_) | refine ct (hx := ?_) | refine cf (hy := ?_) | refine lr (g := sg ?_) | refine rt (sg ?_) | refine rt ?_ | refine sk ?_ | refine xt ?_ | refine f1 (g := sg ?_) | refine f2 (g := sg ?_) | refine f3 (g := sg ?_) | refine And.intro (by first | assumption | omega) ?_
    refine cb (fun h => ?_) (fun h => ?_)
    · have hin : i < l.length := by omega
      have hwi : IntKind.i64.wrap ((i : Int) + 1) = ((i + 1 : Nat) : Int) := by rw [IntKind.wrap_i64]; omega
      have he := el_at (f := cAe) hin
      repeat first | refine nx ?_ | refine sq fun _ _ => ?_ | refine rg (sg ?_) | refine bl ?_ | refine sk (sg ?_) | refine xt (sg ?_) | refine lx (g := sg ?_) | refine ct (hx := ?_) | refine cf (hy := ?_) | refine lr (g := sg ?_) | refine rt (sg ?_) | refine rt ?_ | refine sk ?_ | refine xt ?_ | refine f1 (g := sg ?_) | refine f2 (g := sg ?_) | refine f3 (g := sg ?_) | refine And.intro (by first | assumption | omega) ?_
      refine dr [.take 0, .take 1, .take 2, .take 3, .take 4, .take 5, .take 6, .take 7, .take 8, .take 9, .take 10] [] (sg ?_)
      simp only [he]
      refine sg ?_
      refine ⟨⟨by omega, by omega⟩, by omega, ?_⟩
      repeat first | refine nx ?_ | refine sq fun _ _ => ?_ | refine rg (sg ?_) | refine bl ?_ | refine sk (sg ?_) | refine xt (sg ?_) | refine lx (g := sg ?_) | refine ct (hx := ?_) | refine cf (hy := ?_) | refine lr (g := sg ?_) | refine rt (sg ?_) | refine rt ?_ | refine sk ?_ | refine xt ?_ | refine f1 (g := sg ?_) | refine f2 (g := sg ?_) | refine f3 (g := sg ?_) | refine And.intro (by first | assumption | omega) ?_
      refine ln (l.length - (i + 1)) [0, 1] ?_ ?_
      · omega
      refine ⟨i + 1, rfl, by omega, ?_⟩
      rw [← hwi]
      rfl
    · repeat first | refine nx ?_ | refine sq fun _ _ => ?_ | refine rg (sg ?_) | refine bl ?_ | refine sk (sg ?_) | refine xt (sg ?_) | refine lx (g := sg ?_) | refine ct (hx := ?_) | refine cf (hy := ?_) | refine lr (g := sg ?_) | refine rt (sg ?_) | refine rt ?_ | refine sk ?_ | refine xt ?_ | refine f1 (g := sg ?_) | refine f2 (g := sg ?_) | refine f3 (g := sg ?_) | refine And.intro (by first | assumption | omega) ?_
      exact ax [] ⟨rfl, rfl⟩
set_option maxHeartbeats 2000000 in
theorem c14 (k1 : Int) (k2 : ByteArray) (k3 : List Co) (k4 : List (List Ce)) (q1 : ByteArray) (q2 : List ByteArray) (o : Int) (c : ByteArray) (m : Int) (v : Ce) (k : Int) (pt : ByteArray) (l : List Ae) (q5 : ByteArray) (o' : Int) (c' : ByteArray) (m' : Int) (v' : Ce) (k' : Int) (pt' : ByteArray) (hl : l.length ≤ 1000) (h2 : q2.length ≤ 1000) (h3 : k3.length ≤ 1000) (h4 : k4.length ≤ 1000) (h5 : ∀ r ∈ k4, r.length ≤ 1000) :
    PC Tryd.prog 14 [.agg (lc (cOp ⟨k1, k2, k3, k4, .mk o' c' m' v' k' pt' [], ⟨q1, q2, .mk o c m v k pt [], l, q5⟩⟩)), .agg (lc (cOp ⟨k1, k2, k3, k4, .mk o' c' m' v' k' pt' [], ⟨q1, q2, .mk o c m v k pt [], l, q5⟩⟩))] [] (fun r bx => r = .one (.c (.v (.bool true))) ∧ bx = []) := by
  refine enter (rs := [.tmp 4]) mx Tryd.func14 Tryd.ntmps14 fun Q0 hQ0 => ?_
  simp only [cOp, cQu, cPr, lc, rowA, List.map_cons, List.map_nil, List.map_append, List.cons_append, List.nil_append, List.length_nil]
  repeat first | refine nx ?_ | refine sq fun _ _ => ?_ | refine rg (sg ?_) | refine bl ?_ | refine sk (sg ?_) | refine xt (sg ?_) | refine lx (g := sg ?_) | refine ct (hx := ?_) | refine cf (hy := ?_) | refine lr (g := sg ?_) | refine rt (sg ?_) | refine rt ?_ | refine sk ?_ | refine xt ?_ | refine f1 (g := sg ?_) | refine f2 (g := sg ?_) | refine f3 (g := sg ?_) | refine And.intro (by first | assumption | omega) ?_
  refine cl [] (sg ?_)
  refine (c11 k3 h3).mono ?_
  rintro r bx ⟨rfl, rfl⟩
  refine sg ?_
  refine cl [] (sg ?_)
  refine (c34 k4 h4 h5).mono ?_
  rintro r bx ⟨rfl, rfl⟩
  refine sg ?_
  refine cl [] (sg ?_)
  refine (c35 o' c' m' v' k' pt').mono ?_
  rintro r bx ⟨rfl, rfl⟩
  refine sg ?_
  refine cl [] (sg ?_)
  refine (c36 q1 q2 o c m v k pt l q5 hl h2).mono ?_
  rintro r bx ⟨rfl, rfl⟩
  refine sg ?_
  repeat first | refine nx ?_ | refine sq fun _ _ => ?_ | refine rg (sg ?_) | refine bl ?_ | refine sk (sg ?_) | refine xt (sg ?_) | refine lx (g := sg ?_) | refine ct (hx := ?_) | refine cf (hy := ?_) | refine lr (g := sg ?_) | refine rt (sg ?_) | refine rt ?_ | refine sk ?_ | refine xt ?_ | refine f1 (g := sg ?_) | refine f2 (g := sg ?_) | refine f3 (g := sg ?_) | refine And.intro (by first | assumption | omega) ?_
  exact ax [] ⟨rfl, rfl⟩
end Go.Proofs.YtdedmhmomoejkaaDoor.V
