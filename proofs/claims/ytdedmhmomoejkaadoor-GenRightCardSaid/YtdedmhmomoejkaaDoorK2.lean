import Derived.Test.YtdedmhmomoejkaaDoorK1
namespace Go.Proofs.YtdedmhmomoejkaaDoor.V
open Go Go.RowKit Go.Proofs.YtdedmhmomoejkaaDoorW.PrintLast
open Go.Proofs
set_option linter.unusedVariables false
set_option linter.unusedSimpArgs false
attribute [local irreducible] awp
--IMP K1
set_option maxRecDepth 100000
def tyc (c : Int) : Int := if c = 0 then 1 else if c = 1 then 3 else 2
theorem repS_add (x : ByteArray) (i : Nat) : repS x ((i : Int) + 1) = repS x (i : Int) ++ x := by
  have e : ((i : Int) + 1).toNat = i + 1 := by omega
  unfold repS
  rw [e, Int.toNat_natCast, Lib.repeatL_add, Lib.repeatL_one]
  apply ByteArray.ext
  simp
theorem repS_size (x : ByteArray) (i : Nat) : (repS x (i : Int)).size = i * x.size := by
  unfold repS
  show (List.toArray _).size = _
  rw [List.size_toArray, Lib.repeatL_length, Int.toNat_natCast]
  rfl
theorem c38 (c a : Int) : PC Tryd.prog 38 [rA, .int .i64 c] [rB a] (fun r bx => r = aCe (cellS (tyc c) a).1 ∧ bx = [rB (cellS (tyc c) a).2]) := by
  refine enter (rs := [.cell 4 35]) mx Tryd.func38 Tryd.ntmps38 fun Q0 hQ0 => ?_
  repeat first | refine nx ?_ | refine sq fun _ _ => ?_ | refine rg (sg ?_) | refine bl ?_ | refine sk (sg ?_) | refine xt (sg ?_) | refine lx (g := sg ?_) | refine ct (hx := ?_) | refine cf (hy := ?_) | refine lr (g := sg ?_) | refine rt (sg ?_) | refine rt ?_ | refine sk ?_ | refine xt ?_ | refine f1 (g := sg ?_) | refine f2 (g := sg ?_) | refine f3 (g := sg ?_) | refine And.intro (by first | assumption | omega) ?_
  refine cb (fun h => ?_) (fun h => ?_)
  · subst h
    repeat first | refine nx ?_ | refine sq fun _ _ => ?_ | refine rg (sg ?_) | refine bl ?_ | refine sk (sg ?_) | refine xt (sg ?_) | refine lx (g := sg ?_) | refine ct (hx := ?_) | refine cf (hy := ?_) | refine lr (g := sg ?_) | refine rt (sg ?_) | refine rt ?_ | refine sk ?_ | refine xt ?_ | refine f1 (g := sg ?_) | refine f2 (g := sg ?_) | refine f3 (g := sg ?_) | refine And.intro (by first | assumption | omega) ?_
    refine cl [0] (sg ?_)
    refine (c37 20 a (by omega) (by omega)).mono ?_
    rintro r bx ⟨rfl, rfl⟩
    refine sg ?_
    repeat first | refine nx ?_ | refine sq fun _ _ => ?_ | refine rg (sg ?_) | refine bl ?_ | refine sk (sg ?_) | refine xt (sg ?_) | refine lx (g := sg ?_) | refine ct (hx := ?_) | refine cf (hy := ?_) | refine lr (g := sg ?_) | refine rt (sg ?_) | refine rt ?_ | refine sk ?_ | refine xt ?_ | refine f1 (g := sg ?_) | refine f2 (g := sg ?_) | refine f3 (g := sg ?_) | refine And.intro (by first | assumption | omega) ?_
    exact ax [] ⟨rfl, rfl⟩
  · repeat first | refine nx ?_ | refine sq fun _ _ => ?_ | refine rg (sg ?_) | refine bl ?_ | refine sk (sg ?_) | refine xt (sg ?_) | refine lx (g := sg ?_) | refine ct (hx := ?_) | refine cf (hy := ?_) | refine lr (g := sg ?_) | refine rt (sg ?_) | refine rt ?_ | refine sk ?_ | refine xt ?_ | refine f1 (g := sg ?_) | refine f2 (g := sg ?_) | refine f3 (g := sg ?_) | refine And.intro (by first | assumption | omega) ?_
    refine cb (fun h2 => ?_) (fun h2 => ?_)
    · subst h2
      have ec : tyc 1 = 3 := rfl
      rw [ec] at hQ0
      repeat first | refine nx ?_ | refine sq fun _ _ => ?_ | refine rg (sg ?_) | refine bl ?_ | refine sk (sg ?_) | refine xt (sg ?_) | refine lx (g := sg ?_) | refine ct (hx := ?_) | refine cf (hy := ?_) | refine lr (g := sg ?_) | refine rt (sg ?_) | refine rt ?_ | refine sk ?_ | refine xt ?_ | refine f1 (g := sg ?_) | refine f2 (g := sg ?_) | refine f3 (g := sg ?_) | refine And.intro (by first | assumption | omega) ?_
      refine cl [0] (sg ?_)
      refine (c37 4 a (by omega) (by omega)).mono ?_
      rintro r bx ⟨rfl, rfl⟩
      refine sg ?_
      have hd := drw_rng 4 a (by omega) (by omega)
      repeat first | refine nx ?_ | refine sq fun _ _ => ?_ | refine rg (sg ?_) | refine bl ?_ | refine sk (sg ?_) | refine xt (sg ?_) | refine lx (g := sg ?_) | refine ct (hx := ?_) | refine cf (hy := ?_) | refine lr (g := sg ?_) | refine rt (sg ?_) | refine rt ?_ | refine sk ?_ | refine xt ?_ | refine f1 (g := sg ?_) | refine f2 (g := sg ?_) | refine f3 (g := sg ?_) | refine And.intro (by first | assumption | omega) ?_
      refine cb (fun h3 => ?_) (fun h3 => ?_)
      · repeat first | refine nx ?_ | refine sq fun _ _ => ?_ | refine rg (sg ?_) | refine bl ?_ | refine sk (sg ?_) | refine xt (sg ?_) | refine lx (g := sg ?_) | refine ct (hx := ?_) | refine cf (hy := ?_) | refine lr (g := sg ?_) | refine rt (sg ?_) | refine rt ?_ | refine sk ?_ | refine xt ?_ | refine f1 (g := sg ?_) | refine f2 (g := sg ?_) | refine f3 (g := sg ?_) | refine And.intro (by first | assumption | omega) ?_
        have e : cellS 3 a = (⟨true, 0, ⟨#[]⟩⟩, nxt a) := by
          unfold cellS
          rw [if_neg (by decide), if_pos rfl, if_neg (by omega)]
        refine ax [] ?_
        rw [e]
        exact ⟨rfl, rfl⟩
      · repeat first | refine nx ?_ | refine sq fun _ _ => ?_ | refine rg (sg ?_) | refine bl ?_ | refine sk (sg ?_) | refine xt (sg ?_) | refine lx (g := sg ?_) | refine ct (hx := ?_) | refine cf (hy := ?_) | refine lr (g := sg ?_) | refine rt (sg ?_) | refine rt ?_ | refine sk ?_ | refine xt ?_ | refine f1 (g := sg ?_) | refine f2 (g := sg ?_) | refine f3 (g := sg ?_) | refine And.intro (by first | assumption | omega) ?_
        refine cl [0] (sg ?_)
        refine (c37 3 _ (by omega) (by omega)).mono ?_
        rintro r bx ⟨rfl, rfl⟩
        refine sg ?_
        have hk := drw_rng 3 (nxt a) (by omega) (by omega)
        repeat first | refine nx ?_ | refine sq fun _ _ => ?_ | refine rg (sg ?_) | refine bl ?_ | refine sk (sg ?_) | refine xt (sg ?_) | refine lx (g := sg ?_) | refine ct (hx := ?_) | refine cf (hy := ?_) | refine lr (g := sg ?_) | refine rt (sg ?_) | refine rt ?_ | refine sk ?_ | refine xt ?_ | refine f1 (g := sg ?_) | refine f2 (g := sg ?_) | refine f3 (g := sg ?_) | refine And.intro (by first | assumption | omega) ?_
        obtain ⟨n, hn⟩ : ∃ n : Nat, drw 4 a = (n : Int) := ⟨(drw 4 a).toNat, by omega⟩
        have e : cellS 3 a = (⟨false, 0, repS (abc (drw 3 (nxt a))) (n : Int)⟩, nxt (nxt a)) := by
          unfold cellS
          rw [if_neg (by decide), if_pos rfl, if_pos (by omega), hn]
        rw [e] at hQ0
        simp only [hn]
        generalize drw 3 (nxt a) = d at hk hQ0 ⊢
        generalize nxt (nxt a) = a2 at hQ0 ⊢
        refine lp [4, 5, 6, 7, 8] [1] (fun k σ => ∃ i : Nat, k = n - i ∧ i ≤ n ∧ σ = ⟨46, 1, [(4, .one (.ptr 1 0)), (5, .int .i64 n), (6, .int .i64 d), (7, .str (repS (abc d) (i : Int))), (8, .int .i64 i)], [rB a2, .var [.c (.v (.bool false)), .c (.v (.int .i64 0)), .c (.v (.string ⟨#[]⟩))] 35]⟩) n ?_ ?_
        · exact ⟨0, by omega, by omega, rfl⟩
        · rintro k σ' ⟨i, hk3, hi, rfl⟩ Q1 hQ1
          repeat first | refine nx ?_ | refine sq fun _ _ => ?_ | refine rg (sg ?_) | refine bl ?_ | refine sk (sg ?_) | refine xt (sg ?_) | refine lx (g := sg ?_) | refine ct (hx := ?_) | refine cf (hy := ?_) | refine lr (g := sg ?_) | refine rt (sg ?_) | refine rt ?_ | refine sk ?_ | refine xt ?_ | refine f1 (g := sg ?_) | refine f2 (g := sg ?_) | refine f3 (g := sg ?_) | refine And.intro (by first | assumption | omega) ?_
          refine cb (fun h4 => ?_) (fun h4 => ?_)
          · have hin : i < n := by omega
            have hwi : IntKind.i64.wrap ((i : Int) + 1) = ((i + 1 : Nat) : Int) := by rw [IntKind.wrap_i64]; omega
            have hsz := repS_size (abc d) i
            have hb := abc_size d
            have hm : i * (abc d).size ≤ 3 * 100 := Nat.mul_le_mul (by omega) hb
            repeat first | refine nx ?_ | refine sq fun _ _ => ?_ | refine rg (sg ?_) | refine bl ?_ | refine sk (sg ?_) | refine xt (sg ?_) | refine lx (g := sg ?_) | refine ct (hx := ?_) | refine cf (hy := ?_) | refine lr (g := sg ?_) | refine rt (sg ?_) | refine rt ?_ | refine sk ?_ | refine xt ?_ | refine f1 (g := sg ?_) | refine f2 (g := sg ?_) | refine f3 (g := sg ?_) | refine And.intro (by first | assumption | omega) ?_
            have hd3 : d = 0 ∨ d = 1 ∨ d = 2 := by omega
            rcases hd3 with rfl | rfl | rfl
            · refine sg ?_
              refine ⟨?_, ?_⟩
              · rw [hsz]
                have : (#[97] : Array UInt8).size = 1 := rfl
                omega
              repeat first | refine nx ?_ | refine sq fun _ _ => ?_ | refine rg (sg ?_) | refine bl ?_ | refine sk (sg ?_) | refine xt (sg ?_) | refine lx (g := sg ?_) | refine ct (hx := ?_) | refine cf (hy := ?_) | refine lr (g := sg ?_) | refine rt (sg ?_) | refine rt ?_ | refine sk ?_ | refine xt ?_ | refine f1 (g := sg ?_) | refine f2 (g := sg ?_) | refine f3 (g := sg ?_) | refine And.intro (by first | assumption | omega) ?_
              refine ln (n - (i + 1)) [1] ?_ ?_
              · omega
              refine ⟨i + 1, rfl, by omega, ?_⟩
              have er : repS (abc 0) ((i + 1 : Nat) : Int) = repS (abc 0) (i : Int) ++ abc 0 := repS_add _ _
              rw [er, ← hwi]
              rfl
            · refine sg ?_
              refine ⟨?_, ?_⟩
              · rw [hsz]
                have : (#[98] : Array UInt8).size = 1 := rfl
                omega
              repeat first | refine nx ?_ | refine sq fun _ _ => ?_ | refine rg (sg ?_) | refine bl ?_ | refine sk (sg ?_) | refine xt (sg ?_) | refine lx (g := sg ?_) | refine ct (hx := ?_) | refine cf (hy := ?_) | refine lr (g := sg ?_) | refine rt (sg ?_) | refine rt ?_ | refine sk ?_ | refine xt ?_ | refine f1 (g := sg ?_) | refine f2 (g := sg ?_) | refine f3 (g := sg ?_) | refine And.intro (by first | assumption | omega) ?_
              refine ln (n - (i + 1)) [1] ?_ ?_
              · omega
              refine ⟨i + 1, rfl, by omega, ?_⟩
              have er : repS (abc 1) ((i + 1 : Nat) : Int) = repS (abc 1) (i : Int) ++ abc 1 := repS_add _ _
              rw [er, ← hwi]
              rfl
            · refine sg ?_
              refine ⟨?_, ?_⟩
              · rw [hsz]
                have : (#[99] : Array UInt8).size = 1 := rfl
                omega
              repeat first | refine nx ?_ | refine sq fun _ _ => ?_ | refine rg (sg ?_) | refine bl ?_ | refine sk (sg ?_) | refine xt (sg ?_) | refine lx (g := sg ?_) | refine ct (hx := ?_) | refine cf (hy := ?_) | refine lr (g := sg ?_) | refine rt (sg ?_) | refine rt ?_ | refine sk ?_ | refine xt ?_ | refine f1 (g := sg ?_) | refine f2 (g := sg ?_) | refine f3 (g := sg ?_) | refine And.intro (by first | assumption | omega) ?_
              refine ln (n - (i + 1)) [1] ?_ ?_
              · omega
              refine ⟨i + 1, rfl, by omega, ?_⟩
              have er : repS (abc 2) ((i + 1 : Nat) : Int) = repS (abc 2) (i : Int) ++ abc 2 := repS_add _ _
              rw [er, ← hwi]
              rfl
          · have hin : i = n := by omega
            subst hin
            repeat first | refine nx ?_ | refine sq fun _ _ => ?_ | refine rg (sg ?_) | refine bl ?_ | refine sk (sg ?_) | refine xt (sg ?_) | refine lx (g := sg ?_) | refine ct (hx := ?_) | refine cf (hy := ?_) | refine lr (g := sg ?_) | refine rt (sg ?_) | refine rt ?_ | refine sk ?_ | refine xt ?_ | refine f1 (g := sg ?_) | refine f2 (g := sg ?_) | refine f3 (g := sg ?_) | refine And.intro (by first | assumption | omega) ?_
            exact ax [] ⟨rfl, rfl⟩
    · have e0 : tyc c = 2 := by unfold tyc; rw [if_neg h, if_neg h2]
      rw [e0] at hQ0
      repeat first | refine nx ?_ | refine sq fun _ _ => ?_ | refine rg (sg ?_) | refine bl ?_ | refine sk (sg ?_) | refine xt (sg ?_) | refine lx (g := sg ?_) | refine ct (hx := ?_) | refine cf (hy := ?_) | refine lr (g := sg ?_) | refine rt (sg ?_) | refine rt ?_ | refine sk ?_ | refine xt ?_ | refine f1 (g := sg ?_) | refine f2 (g := sg ?_) | refine f3 (g := sg ?_) | refine And.intro (by first | assumption | omega) ?_
      refine cl [0] (sg ?_)
      refine (c37 3 a (by omega) (by omega)).mono ?_
      rintro r bx ⟨rfl, rfl⟩
      refine sg ?_
      have hd := drw_rng 3 a (by omega) (by omega)
      repeat first | refine nx ?_ | refine sq fun _ _ => ?_ | refine rg (sg ?_) | refine bl ?_ | refine sk (sg ?_) | refine xt (sg ?_) | refine lx (g := sg ?_) | refine ct (hx := ?_) | refine cf (hy := ?_) | refine lr (g := sg ?_) | refine rt (sg ?_) | refine rt ?_ | refine sk ?_ | refine xt ?_ | refine f1 (g := sg ?_) | refine f2 (g := sg ?_) | refine f3 (g := sg ?_) | refine And.intro (by first | assumption | omega) ?_
      refine cb (fun h3 => ?_) (fun h3 => ?_)
      · repeat first | refine nx ?_ | refine sq fun _ _ => ?_ | refine rg (sg ?_) | refine bl ?_ | refine sk (sg ?_) | refine xt (sg ?_) | refine lx (g := sg ?_) | refine ct (hx := ?_) | refine cf (hy := ?_) | refine lr (g := sg ?_) | refine rt (sg ?_) | refine rt ?_ | refine sk ?_ | refine xt ?_ | refine f1 (g := sg ?_) | refine f2 (g := sg ?_) | refine f3 (g := sg ?_) | refine And.intro (by first | assumption | omega) ?_
        have e : cellS 2 a = (⟨true, 0, ⟨#[]⟩⟩, nxt a) := by
          unfold cellS
          rw [if_neg (by decide), if_neg (by decide), if_neg (by omega)]
        refine ax [] ?_
        rw [e]
        exact ⟨rfl, rfl⟩
      · repeat first | refine nx ?_ | refine sq fun _ _ => ?_ | refine rg (sg ?_) | refine bl ?_ | refine sk (sg ?_) | refine xt (sg ?_) | refine lx (g := sg ?_) | refine ct (hx := ?_) | refine cf (hy := ?_) | refine lr (g := sg ?_) | refine rt (sg ?_) | refine rt ?_ | refine sk ?_ | refine xt ?_ | refine f1 (g := sg ?_) | refine f2 (g := sg ?_) | refine f3 (g := sg ?_) | refine And.intro (by first | assumption | omega) ?_
        have e : cellS 2 a = (⟨false, IntKind.i64.wrap (drw 3 a - 1), ⟨#[]⟩⟩, nxt a) := by
          unfold cellS
          rw [if_neg (by decide), if_neg (by decide), if_pos (by omega)]
        refine ax [] ?_
        rw [e]
        exact ⟨rfl, rfl⟩
end Go.Proofs.YtdedmhmomoejkaaDoor.V
