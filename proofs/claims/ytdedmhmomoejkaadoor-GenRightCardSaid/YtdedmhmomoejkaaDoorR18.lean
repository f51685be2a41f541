import Derived.Test.YtdedmhmomoejkaaDoorR17
namespace Go.Proofs.YtdedmhmomoejkaaDoor.V
open Go Go.RowKit Go.Proofs.YtdedmhmomoejkaaDoorW.PrintLast
open Go.Proofs
set_option linter.unusedVariables false
set_option linter.unusedSimpArgs false
attribute [local irreducible] awp
set_option maxRecDepth 100000
theorem vw_nil {α : Type} (f : α → List C) : vw [] = elemsOf (([] : List α).map f) := vw_lc ([] : List α) f
theorem els_op (o : Opn) : [L.c (el (cOp o) 0), L.c (el (cOp o) 1), L.c (el (cOp o) 2), L.c (el (cOp o) 3), L.c (el (cOp o) 4), L.c (el (cOp o) 5), L.c (el (cOp o) 6), L.c (el (cOp o) 7), L.c (el (cOp o) 8), L.c (el (cOp o) 9), L.c (el (cOp o) 10), L.c (el (cOp o) 11), L.c (el (cOp o) 12), L.c (el (cOp o) 13), L.c (el (cOp o) 14), L.c (el (cOp o) 15), L.c (el (cOp o) 16), L.c (el (cOp o) 17), L.c (el (cOp o) 18), L.c (el (cOp o) 19), L.c (el (cOp o) 20), L.c (el (cOp o) 21), L.c (el (cOp o) 22), L.c (el (cOp o) 23), L.c (el (cOp o) 24), L.c (el (cOp o) 25)] = lc (cOp o) := by
  obtain ⟨k1, k2, k3, k4, ⟨p1, p2, p3, p4, p5, p6, p7⟩, ⟨q1, q2, ⟨r1, r2, r3, r4, r5, r6, r7⟩, q4, q5⟩⟩ := o
  rfl
set_option maxHeartbeats 8000000 in
theorem c5 (s n : Int) : PC Tryd.prog 5 [.int .u64 s, .int .i64 n] [] (fun r bx => r = .bool true ∧ bx = []) := by
  refine enter (rs := [.tmp 4]) mx Tryd.func5 Tryd.ntmps5 fun Q0 hQ0 => ?_
  refine sq fun _ _ => ?_
  refine rg (sg ?_)
  refine nx ?_
  refine sq fun _ _ => ?_
  refine sq fun _ _ => ?_
  refine rg (sg ?_)
  refine nx ?_
  refine cb (fun h => ?_) (fun h => ?_)
  · refine sq fun _ _ => ?_
    refine rg (sg ?_)
    refine cl [] (sg ?_)
    refine (c9).mono ?_
    rintro r bx ⟨rfl, rfl⟩
    refine sg ?_
    refine nx ?_
    refine rt (sg ?_)
    refine f1 (g := sg ?_)
    exact ax [] ⟨rfl, rfl⟩
  · refine sk (sg ?_)
    refine nx ?_
    refine sq fun _ _ => ?_
    refine rg (sg ?_)
    refine cl [] (sg ?_)
    refine (c10 _ _).mono ?_
    rintro r bx ⟨rfl, rfl⟩
    refine sg ?_
    refine nx ?_
    refine sq fun _ _ => ?_
    refine rg (sg ?_)
    refine nx ?_
    refine sq fun _ _ => ?_
    refine sq fun _ _ => ?_
    refine rg (sg ?_)
    refine nx ?_
    refine bl ?_
    have hlen : (opsS (min n 100).toNat s).1.length = (min n 100).toNat := opsS_len _ _
    have hO : ∀ (i : Nat) (h : i < (opsS (min n 100).toNat s).1.length), okO ((opsS (min n 100).toNat s).1[i]'h) := fun i h => by rw [opsS_at s i _ h]; exact okO_one _
    generalize (opsS (min n 100).toNat s).1 = ops at *
    have hmx : (if n < 0 then 0 else n) = (ops.length : Int) := by rw [hlen]; split <;> omega
    refine lp [1, 4, 5, 6, 7] [] (fun k σ => ∃ (i : Nat) (l : List Tb), k = ops.length - i ∧ i ≤ ops.length ∧ l.length ≤ i ∧ (∀ t ∈ l, okT t) ∧ σ = ⟨49, 0, [(1, A.int .i64 n), (4, A.bool false), (5, xRow ops.length 26 (elemsOf (ops.map cOp))), (6, xRow l.length 3 (elemsOf (l.map cTb))), (7, A.int .i64 i)], []⟩) ops.length ?_ ?_
    · refine ⟨0, [], by omega, by omega, Nat.le_refl _, fun t h => (nomatch h), ?_⟩
      simp only [St.keep]
      refine sg ?_
      simp only [vw_nil cTb]
      rfl
    · rintro k σ' ⟨i, l, hk, hi, hll, hT, rfl⟩ Q1 hQ1
      refine sq fun _ _ => ?_
      refine sq fun _ _ => ?_
      refine rg (sg ?_)
      refine nx ?_
      refine cb (fun h3 => ?_) (fun h3 => ?_)
      · refine sk (sg ?_)
        refine nx ?_
        refine sq fun _ _ => ?_
        refine bl ?_
        refine sq fun _ _ => ?_
        refine rg (sg ?_)
        refine and_assoc.2 ?_
        refine And.intro (by first | assumption | omega | rfl | trivial) ?_
        refine And.intro (by first | assumption | omega | rfl | trivial) ?_
        refine cl [] (sg ?_)
        simp (disch := omega) only [el_at]
        rw [els_op]
        refine (c16 l (by omega) hT _ (hO i (by omega))).mono ?_
        rintro r bx ⟨rfl, l', e, k2, x, y, rfl, h4, h5, hx, hy, h6, h7⟩
        refine sg ?_
        skip
        refine ⟨show (lcell (.c x) && lcell (.c y)) = true by rw [hx, hy]; rfl, ?_⟩
        refine nx ?_
        refine sq fun _ _ => ?_
        refine rg (sg ?_)
        refine nx ?_
        refine sq fun _ _ => ?_
        refine rg (sg ?_)
        refine nx ?_
        refine cb (fun h8 => ?_) (fun h8 => ?_)
        · omega
        · refine sk (sg ?_)
          refine nx ?_
          refine rg (sg ?_)
          simp (disch := omega) only [wrap_succ]
          refine ln (ops.length - (i + 1)) [] ?_ ?_
          · omega
          exact ⟨i + 1, l', rfl, by omega, by omega, h7, keq⟩
      · refine xt (sg ?_)
        refine lx (g := sg ?_)
        refine nx ?_
        refine sq fun _ _ => ?_
        refine rg (sg ?_)
        simp only [undef]
        simp only [hmx]
        refine sg ?_
        refine ⟨?_, fun hf => by simp at hf⟩
        refine cl [] (sg ?_)
        refine (c9).mono ?_
        rintro r bx ⟨rfl, rfl⟩
        refine sg ?_
        refine nx ?_
        refine rt ?_
        refine f1 (g := sg ?_)
        exact ax [] ⟨rfl, rfl⟩

end Go.Proofs.YtdedmhmomoejkaaDoor.V
