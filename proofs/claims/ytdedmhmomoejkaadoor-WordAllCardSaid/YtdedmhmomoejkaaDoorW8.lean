import Derived.Test.YtdedmhmomoejkaaDoorW7
namespace Go.Proofs.YtdedmhmomoejkaaDoor.V
open Go Go.RowKit Go.Proofs.YtdedmhmomoejkaaDoorW.PrintLast
open Go.Proofs
set_option linter.unusedVariables false
set_option linter.unusedSimpArgs false
attribute [local irreducible] awp
set_option maxRecDepth 100000
def cBy (b : UInt8) : List C := [.v (.int .u8 (b.toNat : Int))]
theorem textOf_by (l : List UInt8) : textOf (l.map fun x => lc (cBy x)) = ofL l := by
  unfold textOf
  congr 2
  rw [List.map_map]
  conv => rhs; rw [← List.map_id l]
  apply List.map_congr_left
  intro b _
  show UInt8.ofNat _ = b
  simp
theorem allByte_by (l : List UInt8) : allByte (l.map fun x => lc (cBy x)) := fun e he => by
  obtain ⟨b, _, rfl⟩ := List.mem_map.1 he
  exact ⟨_, rfl⟩
theorem quotL_ne {c : UInt8} {r : List UInt8} (h : c.toNat ≠ 39) : quotL (c :: r) = (quotL r).map fun x => (c :: x.1, x.2 + 1) := by
  rw [quotL.eq_def]; exact if_neg h
theorem quotL_end {c : UInt8} {r : List UInt8} (h : c.toNat = 39) (hr : ∀ d q, r = d :: q → d.toNat ≠ 39) : quotL (c :: r) = some ([], 1) := by
  rw [quotL.eq_def]
  simp only [if_pos h]
  cases r with
  | nil => rfl
  | cons d q => exact if_neg (hr d q rfl)
theorem quotL_two {c d : UInt8} {q : List UInt8} (h : c.toNat = 39) (hd : d.toNat = 39) : quotL (c :: d :: q) = (quotL q).map fun x => (39 :: x.1, x.2 + 2) := by
  rw [quotL.eq_def]
  simp only [if_pos h, if_pos hd]
set_option maxHeartbeats 4000000 in
theorem c117 (s : ByteArray) (c0 : UInt8) (r0 : List UInt8) (hl : bsL s = c0 :: r0) (hs : s.size ≤ 400) : PC Tryd.prog 117 [A.str s] [] (fun r bx => bx = [] ∧ r = .tup [([xS (match quotL r0 with | some x => ofL x.1 | none => ⟨#[]⟩)], false), ([xI (match quotL r0 with | some x => (x.2 + 1 : Nat) | none => 0)], false)]) := by
  have hsz := len_bsL s
  refine enter (rs := [.tmp 2, .tmp 3]) mx Tryd.func117 Tryd.ntmps117 fun Q0 hQ0 => ?_
  refine sq fun _ _ => ?_
  refine rg (sg ?_)
  refine nx ?_
  refine sq fun _ _ => ?_
  refine rg (sg ?_)
  refine nx ?_
  refine sq fun _ _ => ?_
  refine rg (sg ?_)
  refine nx ?_
  refine sq fun _ _ => ?_
  refine bl ?_
  refine lp [0, 4, 5] [0] (fun k σ => ∃ (i : Nat) (acc : List UInt8), k = s.size - i ∧ 1 ≤ i ∧ i ≤ s.size ∧ acc.length ≤ i ∧ quotL r0 = (quotL ((bsL s).drop i)).map (fun x => (acc ++ x.1, x.2 + (i - 1))) ∧ σ = ⟨44, 0, [(0, A.str s), (4, xOwn 0 1 0 acc.length), (5, A.int .i64 i)], [.arr (acc.map fun x => lc (cBy x)) 1 5]⟩) (s.size - 1) ?_ ?_
  · refine ⟨1, [], by omega, by omega, by rw [← hsz, hl]; simp, by simp, ?_, keq⟩
    rw [hl]
    simp
  · rintro k σ' ⟨i, acc, hk, hi1, hi, hacc, hq, rfl⟩ Q1 hQ1
    refine sq fun _ _ => ?_
    refine sq fun _ _ => ?_
    refine rg (sg ?_)
    refine nx ?_
    refine cb (fun h => ?_) (fun h => ?_)
    · have hi2 : i < s.size := by omega
      have ha := at_list' hi2
      have hcg := chr_get s i hi2
      have hd := drop_cons ha
      generalize s.get! i = c at ha hcg hd
      rw [hd] at hq
      refine sk (sg ?_)
      refine nx ?_
      refine bl ?_
      refine sq fun _ _ => ?_
      refine sq fun _ _ => ?_
      refine rg (sg ?_)
      refine and_assoc.2 ?_
      refine And.intro (by first | assumption | omega | rfl | trivial) ?_
      refine And.intro (by first | assumption | omega | rfl | trivial) ?_
      refine nx ?_
      simp only [hcg]
      refine cb (fun h2 => ?_) (fun h2 => ?_)
      · have hc : c.toNat ≠ 39 := by omega
        rw [quotL_ne hc] at hq
        refine sq fun _ _ => ?_
        refine rg (sg ?_)
        refine and_assoc.2 ?_
        refine And.intro (by first | assumption | omega | rfl | trivial) ?_
        refine And.intro (by first | assumption | omega | rfl | trivial) ?_
        refine And.intro (by first | assumption | omega | rfl | trivial) ?_
        refine And.intro (by simp only [maxLen]; omega) ?_
        refine nx ?_
        refine sq fun _ _ => ?_
        refine rg (sg ?_)
        refine nx ?_
        refine xt (sg ?_)
        simp (disch := omega) only [wrap_succ]
        simp only [hcg]
        have hq2 : quotL r0 = (quotL ((bsL s).drop (i + 1))).map (fun x => ((acc ++ [c]) ++ x.1, x.2 + (i + 1 - 1))) := by
          rw [hq]
          cases quotL ((bsL s).drop (i + 1)) with
          | none => rfl
          | some x => simp; omega
        refine ln (s.size - (i + 1)) [2] ?_ ?_
        · omega
        exact ⟨i + 1, acc ++ [c], rfl, by omega, by omega, by simp; omega, hq2, keq⟩
      · have hc : c.toNat = 39 := by omega
        have hwi : IntKind.i64.wrap ((i : Int) + 1) = ((i + 1 : Nat) : Int) := wrap_succ (by omega)
        refine sk (sg ?_)
        refine nx ?_
        refine sq fun _ _ => ?_
        refine sq fun _ _ => ?_
        refine rg (sg ?_)
        refine And.intro (by first | assumption | omega | rfl | trivial) ?_
        refine nx ?_
        simp only [hwi, Int.toNat_natCast]
        refine cb (fun h3 => ?_) (fun h3 => ?_)
        · have hn : quotL r0 = some (acc, i) := by
            rw [hq, quotL_end hc]
            · simp; omega
            · intro d q hr
              have hd1 : (bsL s)[i + 1]? = some d := by rw [← List.head?_drop, hr]; rfl
              obtain ⟨hp, _, hg⟩ := at_list hd1
              rw [chr_get s (i + 1) hp, hg] at h3
              omega
          refine sq fun _ _ => ?_
          refine rg (sg ?_)
          refine ⟨allByte_by _, ?_⟩
          simp only [textOf_by, hwi]
          refine nx ?_
          refine rt (sg ?_)
          refine lr (g := sg ?_)
          refine f2 (g := sg ?_)
          refine ⟨_, _, rfl, rfl, ?_⟩
          refine ax [] ⟨rfl, ?_⟩
          rw [hn]
          rfl
        · have hp : i + 1 < s.size := by omega
          have hb := at_list' hp
          have hcb := chr_get s (i + 1) hp
          generalize s.get! (i + 1) = d at hb hcb
          rw [hcb] at h3
          have hq2 : quotL r0 = (quotL ((bsL s).drop (i + 2))).map (fun x => ((acc ++ [39]) ++ x.1, x.2 + (i + 2 - 1))) := by
            rw [hq, drop_cons hb, quotL_two hc (show d.toNat = 39 by omega)]
            cases quotL ((bsL s).drop (i + 1 + 1)) with
            | none => rfl
            | some x => simp; omega
          have hw2 : IntKind.i64.wrap ((i : Int) + 2) = ((i + 2 : Nat) : Int) := by rw [IntKind.wrap_i64]; omega
          refine sk (sg ?_)
          refine nx ?_
          refine sq fun _ _ => ?_
          refine rg (sg ?_)
          refine And.intro (by first | assumption | omega | rfl | trivial) ?_
          refine And.intro (by simp only [maxLen]; omega) ?_
          refine nx ?_
          refine rg (sg ?_)
          simp only [hw2]
          refine ln (s.size - (i + 2)) [2] ?_ ?_
          · omega
          exact ⟨i + 2, acc ++ [39], by omega, by omega, by omega, by simp; omega, hq2, keq⟩
    · have hn : quotL r0 = none := by rw [hq, List.drop_of_length_le (by omega)]; rfl
      refine xt (sg ?_)
      refine lx (g := sg ?_)
      refine nx ?_
      refine sq fun _ _ => ?_
      refine rg (sg ?_)
      refine nx ?_
      refine rt ?_
      refine f2 (g := sg ?_)
      refine ⟨_, _, rfl, rfl, ?_⟩
      refine ax [] ⟨rfl, ?_⟩
      rw [hn]
      rfl

end Go.Proofs.YtdedmhmomoejkaaDoor.V
