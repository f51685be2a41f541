import Derived.Test.YtdedmhmomoejkaaDoorR10
namespace Go.Proofs.YtdedmhmomoejkaaDoor.V
open Go Go.RowKit Go.Proofs.YtdedmhmomoejkaaDoorW.PrintLast
open Go.Proofs
set_option linter.unusedVariables false
set_option linter.unusedSimpArgs false
attribute [local irreducible] awp
--IMP R10
set_option maxRecDepth 100000
theorem c90 (x : Ae) (h : okAg x) : PC Tryd.prog 90 [.agg (lc (cAe x))] [] (fun r bx => (∃ s, r = .str s) ∧ bx = []) := by
  refine enter (rs := [.tmp 2]) mx Tryd.func90 Tryd.ntmps90 fun Q0 hQ0 => ?_
  obtain ⟨op, col⟩ := x
  simp only [cAe, lc, List.map_cons, List.map_nil]
  rcases h with ⟨h1, h2⟩ | ⟨h1, h2⟩
  · have h1 : op = 1 := h1
    have h2 : col = ⟨#[]⟩ := h2
    subst h1 h2
    repeat first | refine nx ?_ | refine sq fun _ _ => ?_ | refine rg (sg ?_) | refine bl ?_ | refine sk (sg ?_) | refine xt (sg ?_) | refine lx (g := sg ?_) | refine ct (hx := ?_) | refine cf (hy := ?_) | refine lr (g := sg ?_) | refine rt (sg ?_) | refine rt ?_ | refine sk ?_ | refine xt ?_ | refine f1 (g := sg ?_) | refine f2 (g := sg ?_) | refine f3 (g := sg ?_) | refine And.intro (by first | assumption | omega) ?_
    exact ax [] ⟨⟨_, rfl⟩, rfl⟩
  · have h1 : op = 3 := h1
    have h2 : col = bA := h2
    subst h1 h2
    repeat first | refine nx ?_ | refine sq fun _ _ => ?_ | refine rg (sg ?_) | refine bl ?_ | refine sk (sg ?_) | refine xt (sg ?_) | refine lx (g := sg ?_) | refine ct (hx := ?_) | refine cf (hy := ?_) | refine lr (g := sg ?_) | refine rt (sg ?_) | refine rt ?_ | refine sk ?_ | refine xt ?_ | refine f1 (g := sg ?_) | refine f2 (g := sg ?_) | refine f3 (g := sg ?_) | refine And.intro (by first | assumption | omega) ?_
    refine dr [.take 1, .take 2, .take 3, .take 7, .take 8, .one 0, .pure 4, .one 5, .pure 6, .pure 9, .pure 10, .pure 11] [] (sg ?_)
    have hw : IntKind.i64.wrap 1 = 1 := by decide
    simp only [hw]
    refine sg ?_
    refine ⟨by decide, by decide, by decide, ?_⟩
    repeat first | refine nx ?_ | refine sq fun _ _ => ?_ | refine rg (sg ?_) | refine bl ?_ | refine sk (sg ?_) | refine xt (sg ?_) | refine lx (g := sg ?_) | refine ct (hx := ?_) | refine cf (hy := ?_) | refine lr (g := sg ?_) | refine rt (sg ?_) | refine rt ?_ | refine sk ?_ | refine xt ?_ | refine f1 (g := sg ?_) | refine f2 (g := sg ?_) | refine f3 (g := sg ?_) | refine And.intro (by first | assumption | omega) ?_
    exact ax [] ⟨⟨_, rfl⟩, rfl⟩
theorem sts_map (l : List ByteArray) (bx : List B) (ρ : Nat → Option Nat) : (l.map fun x => lc (cSt x)).map (fun e => e.map (subL bx ρ)) = l.map fun x => lc (cSt x) := by
  rw [List.map_map]; rfl
set_option maxHeartbeats 4000000 in
theorem c48 (c : List Co) (nm : ByteArray) (v : Int) (l : List Ae) (hn : okN nm) (hl : l.length ≤ 4) (ha : ∀ x ∈ l, okAg x) (hA : okA c) (hK : okK c) : PC Tryd.prog 48 [.one (.c (rowA 3 cCo c)), .agg (lc (cQu (quA nm v l)))] [] (fun r bx => (∃ l, r = .one (.c (rowA 1 cSt l))) ∧ bx = []) := by
  have hcl : c.length ≤ 1000 := by have := hK.2.2.2; omega
  refine enter (rs := [.tmp 4]) mx Tryd.func48 Tryd.ntmps48 fun Q0 hQ0 => ?_
  simp only [lc_quA]
  unfold rowA
  repeat first | refine nx ?_ | refine sq fun _ _ => ?_ | refine rg (sg ?_) | refine bl ?_ | refine sk (sg ?_) | refine xt (sg ?_) | refine lx (g := sg ?_) | refine ct (hx := ?_) | refine cf (hy := ?_) | refine lr (g := sg ?_) | refine rt (sg ?_) | refine rt ?_ | refine sk ?_ | refine xt ?_ | refine f1 (g := sg ?_) | refine f2 (g := sg ?_) | refine f3 (g := sg ?_) | refine And.intro (by first | assumption | omega) ?_
  refine cl [] (sg ?_)
  refine (c85 c nm v l hn hl ha hA hK).mono ?_
  rintro r bx ⟨rfl, rfl⟩
  refine sg ?_
  repeat first | refine nx ?_ | refine sq fun _ _ => ?_ | refine rg (sg ?_) | refine bl ?_ | refine sk (sg ?_) | refine xt (sg ?_) | refine lx (g := sg ?_) | refine ct (hx := ?_) | refine cf (hy := ?_) | refine lr (g := sg ?_) | refine rt (sg ?_) | refine rt ?_ | refine sk ?_ | refine xt ?_ | refine f1 (g := sg ?_) | refine f2 (g := sg ?_) | refine f3 (g := sg ?_) | refine And.intro (by first | assumption | omega) ?_
  have e0 : rowList 0 1 (elemsOf []) = [] := rfl
  simp only [e0]
  refine sg ?_
  repeat first | refine nx ?_ | refine sq fun _ _ => ?_ | refine rg (sg ?_) | refine bl ?_ | refine sk (sg ?_) | refine xt (sg ?_) | refine lx (g := sg ?_) | refine ct (hx := ?_) | refine cf (hy := ?_) | refine lr (g := sg ?_) | refine rt (sg ?_) | refine rt ?_ | refine sk ?_ | refine xt ?_ | refine f1 (g := sg ?_) | refine f2 (g := sg ?_) | refine f3 (g := sg ?_) | refine And.intro (by first | assumption | omega) ?_
  refine cb (fun h => ?_) (fun h => ?_)
  · repeat first | refine nx ?_ | refine sq fun _ _ => ?_ | refine rg (sg ?_) | refine bl ?_ | refine sk (sg ?_) | refine xt (sg ?_) | refine lx (g := sg ?_) | refine ct (hx := ?_) | refine cf (hy := ?_) | refine lr (g := sg ?_) | refine rt (sg ?_) | refine rt ?_ | refine sk ?_ | refine xt ?_ | refine f1 (g := sg ?_) | refine f2 (g := sg ?_) | refine f3 (g := sg ?_) | refine And.intro (by first | assumption | omega) ?_
    refine lp [0, 3, 5, 6] [0, 2] (fun k σ => ∃ (i : Nat) (out : List ByteArray), k = c.length - i ∧ i ≤ c.length ∧ out.length ≤ i ∧ σ = ⟨64, 0, [(0, .one (.c (.sl c.length 3 (elemsOf (c.map cCo))))), (3, .one (.ptr 0 0)), (5, .one (.own 1 1 0 out.length)), (6, .int .i64 i)], [.var (lc (cQu (quA nm v l))) 42, .arr (out.map fun x => lc (cSt x)) 1 9]⟩) c.length ?_ ?_
    · exact ⟨0, [], by omega, by omega, Nat.le_refl _, rfl⟩
    · rintro k σ' ⟨i, out, hk, hi, hlen, rfl⟩ Q1 hQ1
      simp only [lc_quA]
      repeat first | refine nx ?_ | refine sq fun _ _ => ?_ | refine rg (sg ?_) | refine bl ?_ | refine sk (sg ?_) | refine xt (sg ?_) | refine lx (g := sg ?_) | refine ct (hx := ?_) | refine cf (hy := ?_) | refine lr (g := sg ?_) | refine rt (sg ?_) | refine rt ?_ | refine sk ?_ | refine xt ?_ | refine f1 (g := sg ?_) | refine f2 (g := sg ?_) | refine f3 (g := sg ?_) | refine And.intro (by first | assumption | omega) ?_
      refine cb (fun h3 => ?_) (fun h3 => ?_)
      · have hin : i < c.length := by omega
        have hwi : IntKind.i64.wrap ((i : Int) + 1) = ((i + 1 : Nat) : Int) := by rw [IntKind.wrap_i64]; omega
        have he := el_at (f := cCo) hin
        repeat first | refine nx ?_ | refine sq fun _ _ => ?_ | refine rg (sg ?_) | refine bl ?_ | refine sk (sg ?_) | refine xt (sg ?_) | refine lx (g := sg ?_) | refine ct (hx := ?_) | refine cf (hy := ?_) | refine lr (g := sg ?_) | refine rt (sg ?_) | refine rt ?_ | refine sk ?_ | refine xt ?_ | refine f1 (g := sg ?_) | refine f2 (g := sg ?_) | refine f3 (g := sg ?_) | refine And.intro (by first | assumption | omega) ?_
        simp only [he]
        refine sg ?_
        refine ⟨Nat.le_refl _, by omega, by simp only [maxLen]; omega, ?_⟩
        rw [take_all (List.map (fun x => lc (cSt x)) out) (List.length_map ..).symm]
        repeat first | refine nx ?_ | refine sq fun _ _ => ?_ | refine rg (sg ?_) | refine bl ?_ | refine sk (sg ?_) | refine xt (sg ?_) | refine lx (g := sg ?_) | refine ct (hx := ?_) | refine cf (hy := ?_) | refine lr (g := sg ?_) | refine rt (sg ?_) | refine rt ?_ | refine sk ?_ | refine xt ?_ | refine f1 (g := sg ?_) | refine f2 (g := sg ?_) | refine f3 (g := sg ?_) | refine And.intro (by first | assumption | omega) ?_
        refine ln (c.length - (i + 1)) [0, 3] ?_ ?_
        · omega
        refine ⟨i + 1, out ++ [c[i].nm], rfl, by omega, by simp; omega, ?_⟩
        rw [← hwi]
        simp only [St.keep, List.length_append]
        refine sg ?_
        simp only [List.map_append, sts_map, List.map_cons, List.map_nil]
        rfl
      · repeat first | refine nx ?_ | refine sq fun _ _ => ?_ | refine rg (sg ?_) | refine bl ?_ | refine sk (sg ?_) | refine xt (sg ?_) | refine lx (g := sg ?_) | refine ct (hx := ?_) | refine cf (hy := ?_) | refine lr (g := sg ?_) | refine rt (sg ?_) | refine rt ?_ | refine sk ?_ | refine xt ?_ | refine f1 (g := sg ?_) | refine f2 (g := sg ?_) | refine f3 (g := sg ?_) | refine And.intro (by first | assumption | omega) ?_
        refine lp [3, 5, 7] [0, 1] (fun k σ => ∃ (i : Nat) (out : List ByteArray), k = l.length - i ∧ i ≤ l.length ∧ out.length ≤ 1000 + i ∧ σ = ⟨64, 0, [(3, .one (.ptr 0 0)), (5, .one (.own 1 1 0 out.length)), (7, .int .i64 i)], [.var (lc (cQu (quA nm v l))) 42, .arr (out.map fun x => lc (cSt x)) 1 9]⟩) l.length ?_ ?_
        · refine ⟨0, out, by omega, by omega, by omega, ?_⟩
          simp only [St.keep]
          refine sg ?_
          rfl
        · rintro k2 σ2 ⟨i2, out2, hk2, hi2, hlen2, rfl⟩ Q2 hQ2
          simp only [lc_quA]
          repeat first | refine nx ?_ | refine sq fun _ _ => ?_ | refine rg (sg ?_) | refine bl ?_ | refine sk (sg ?_) | refine xt (sg ?_) | refine lx (g := sg ?_) | refine ct (hx := ?_) | refine cf (hy := ?_) | refine lr (g := sg ?_) | refine rt (sg ?_) | refine rt ?_ | refine sk ?_ | refine xt ?_ | refine f1 (g := sg ?_) | refine f2 (g := sg ?_) | refine f3 (g := sg ?_) | refine And.intro (by first | assumption | omega) ?_
          refine cb (fun h4 => ?_) (fun h4 => ?_)
          · have hin2 : i2 < l.length := by omega
            have hwi2 : IntKind.i64.wrap ((i2 : Int) + 1) = ((i2 + 1 : Nat) : Int) := by rw [IntKind.wrap_i64]; omega
            have he2 := el_at (f := cAe) hin2
            repeat first | refine nx ?_ | refine sq fun _ _ => ?_ | refine rg (sg ?_) | refine bl ?_ | refine sk (sg ?_) | refine xt (sg ?_) | refine lx (g := sg ?_) | refine ct (hx := ?_) | refine cf (hy := ?_) | refine lr (g := sg ?_) | refine rt (sg ?_) | refine rt ?_ | refine sk ?_ | refine xt ?_ | refine f1 (g := sg ?_) | refine f2 (g := sg ?_) | refine f3 (g := sg ?_) | refine And.intro (by first | assumption | omega) ?_
            simp only [he2]
            refine sg ?_
            repeat first | refine nx ?_ | refine sq fun _ _ => ?_ | refine rg (sg ?_) | refine bl ?_ | refine sk (sg ?_) | refine xt (sg ?_) | refine lx (g := sg ?_) | refine ct (hx := ?_) | refine cf (hy := ?_) | refine lr (g := sg ?_) | refine rt (sg ?_) | refine rt ?_ | refine sk ?_ | refine xt ?_ | refine f1 (g := sg ?_) | refine f2 (g := sg ?_) | refine f3 (g := sg ?_) | refine And.intro (by first | assumption | omega) ?_
            refine cl [] (sg ?_)
            refine (c90 _ (ha _ (List.getElem_mem hin2))).mono ?_
            rintro r bx ⟨⟨w, rfl⟩, rfl⟩
            refine sg ?_
            refine ⟨Nat.le_refl _, by omega, by simp only [maxLen]; omega, ?_⟩
            rw [take_all (List.map (fun x => lc (cSt x)) out2) (List.length_map ..).symm]
            repeat first | refine nx ?_ | refine sq fun _ _ => ?_ | refine rg (sg ?_) | refine bl ?_ | refine sk (sg ?_) | refine xt (sg ?_) | refine lx (g := sg ?_) | refine ct (hx := ?_) | refine cf (hy := ?_) | refine lr (g := sg ?_) | refine rt (sg ?_) | refine rt ?_ | refine sk ?_ | refine xt ?_ | refine f1 (g := sg ?_) | refine f2 (g := sg ?_) | refine f3 (g := sg ?_) | refine And.intro (by first | assumption | omega) ?_
            refine ln (l.length - (i2 + 1)) [0, 3] ?_ ?_
            · omega
            refine ⟨i2 + 1, out2 ++ [w], rfl, by omega, by simp; omega, ?_⟩
            rw [← hwi2]
            simp only [St.keep, List.length_append]
            refine sg ?_
            simp only [List.map_append, sts_map, List.map_cons, List.map_nil]
            rfl
          · repeat first | refine nx ?_ | refine sq fun _ _ => ?_ | refine rg (sg ?_) | refine bl ?_ | refine sk (sg ?_) | refine xt (sg ?_) | refine lx (g := sg ?_) | refine ct (hx := ?_) | refine cf (hy := ?_) | refine lr (g := sg ?_) | refine rt (sg ?_) | refine rt ?_ | refine sk ?_ | refine xt ?_ | refine f1 (g := sg ?_) | refine f2 (g := sg ?_) | refine f3 (g := sg ?_) | refine And.intro (by first | assumption | omega) ?_
            refine ax [] ⟨⟨out2, ?_⟩, rfl⟩
            rw [← view_own cSt out2 (bx := [.var (lc (cQu (quA nm v l))) 42, .arr (out2.map fun x => lc (cSt x)) 1 9]) (id := 1) (e := 9) rfl rfl]
            rfl
  · repeat first | refine nx ?_ | refine sq fun _ _ => ?_ | refine rg (sg ?_) | refine bl ?_ | refine sk (sg ?_) | refine xt (sg ?_) | refine lx (g := sg ?_) | refine ct (hx := ?_) | refine cf (hy := ?_) | refine lr (g := sg ?_) | refine rt (sg ?_) | refine rt ?_ | refine sk ?_ | refine xt ?_ | refine f1 (g := sg ?_) | refine f2 (g := sg ?_) | refine f3 (g := sg ?_) | refine And.intro (by first | assumption | omega) ?_
    refine lp [3, 5, 7] [0, 2] (fun k σ => ∃ (i : Nat) (out : List ByteArray), k = l.length - i ∧ i ≤ l.length ∧ out.length ≤ 1000 + i ∧ σ = ⟨64, 0, [(3, .one (.ptr 0 0)), (5, .one (.own 1 1 0 out.length)), (7, .int .i64 i)], [.var (lc (cQu (quA nm v l))) 42, .arr (out.map fun x => lc (cSt x)) 1 9]⟩) l.length ?_ ?_
    · exact ⟨0, [], by omega, by omega, by simp, rfl⟩
    · rintro k2 σ2 ⟨i2, out2, hk2, hi2, hlen2, rfl⟩ Q2 hQ2
      simp only [lc_quA]
      repeat first | refine nx ?_ | refine sq fun _ _ => ?_ | refine rg (sg ?_) | refine bl ?_ | refine sk (sg ?_) | refine xt (sg ?_) | refine lx (g := sg ?_) | refine ct (hx := ?_) | refine cf (hy := ?_) | refine lr (g := sg ?_) | refine rt (sg ?_) | refine rt ?_ | refine sk ?_ | refine xt ?_ | refine f1 (g := sg ?_) | refine f2 (g := sg ?_) | refine f3 (g := sg ?_) | refine And.intro (by first | assumption | omega) ?_
      refine cb (fun h4 => ?_) (fun h4 => ?_)
      · have hin2 : i2 < l.length := by omega
        have hwi2 : IntKind.i64.wrap ((i2 : Int) + 1) = ((i2 + 1 : Nat) : Int) := by rw [IntKind.wrap_i64]; omega
        have he2 := el_at (f := cAe) hin2
        repeat first | refine nx ?_ | refine sq fun _ _ => ?_ | refine rg (sg ?_) | refine bl ?_ | refine sk (sg ?_) | refine xt (sg ?_) | refine lx (g := sg ?_) | refine ct (hx := ?_) | refine cf (hy := ?_) | refine lr (g := sg ?_) | refine rt (sg ?_) | refine rt ?_ | refine sk ?_ | refine xt ?_ | refine f1 (g := sg ?_) | refine f2 (g := sg ?_) | refine f3 (g := sg ?_) | refine And.intro (by first | assumption | omega) ?_
        simp only [he2]
        refine sg ?_
        repeat first | refine nx ?_ | refine sq fun _ _ => ?_ | refine rg (sg ?_) | refine bl ?_ | refine sk (sg ?_) | refine xt (sg ?_) | refine lx (g := sg ?_) | refine ct (hx := ?_) | refine cf (hy := ?_) | refine lr (g := sg ?_) | refine rt (sg ?_) | refine rt ?_ | refine sk ?_ | refine xt ?_ | refine f1 (g := sg ?_) | refine f2 (g := sg ?_) | refine f3 (g := sg ?_) | refine And.intro (by first | assumption | omega) ?_
        refine cl [] (sg ?_)
        refine (c90 _ (ha _ (List.getElem_mem hin2))).mono ?_
        rintro r bx ⟨⟨w, rfl⟩, rfl⟩
        refine sg ?_
        refine ⟨Nat.le_refl _, by omega, by simp only [maxLen]; omega, ?_⟩
        rw [take_all (List.map (fun x => lc (cSt x)) out2) (List.length_map ..).symm]
        repeat first | refine nx ?_ | refine sq fun _ _ => ?_ | refine rg (sg ?_) | refine bl ?_ | refine sk (sg ?_) | refine xt (sg ?_) | refine lx (g := sg ?_) | refine ct (hx := ?_) | refine cf (hy := ?_) | refine lr (g := sg ?_) | refine rt (sg ?_) | refine rt ?_ | refine sk ?_ | refine xt ?_ | refine f1 (g := sg ?_) | refine f2 (g := sg ?_) | refine f3 (g := sg ?_) | refine And.intro (by first | assumption | omega) ?_
        refine ln (l.length - (i2 + 1)) [0, 3] ?_ ?_
        · omega
        refine ⟨i2 + 1, out2 ++ [w], rfl, by omega, by simp; omega, ?_⟩
        rw [← hwi2]
        simp only [St.keep, List.length_append]
        refine sg ?_
        simp only [List.map_append, sts_map, List.map_cons, List.map_nil]
        rfl
      · repeat first | refine nx ?_ | refine sq fun _ _ => ?_ | refine rg (sg ?_) | refine bl ?_ | refine sk (sg ?_) | refine xt (sg ?_) | refine lx (g := sg ?_) | refine ct (hx := ?_) | refine cf (hy := ?_) | refine lr (g := sg ?_) | refine rt (sg ?_) | refine rt ?_ | refine sk ?_ | refine xt ?_ | refine f1 (g := sg ?_) | refine f2 (g := sg ?_) | refine f3 (g := sg ?_) | refine And.intro (by first | assumption | omega) ?_
        refine ax [] ⟨⟨out2, ?_⟩, rfl⟩
        rw [← view_own cSt out2 (bx := [.var (lc (cQu (quA nm v l))) 42, .arr (out2.map fun x => lc (cSt x)) 1 9]) (id := 1) (e := 9) rfl rfl]
        rfl
end Go.Proofs.YtdedmhmomoejkaaDoor.V
