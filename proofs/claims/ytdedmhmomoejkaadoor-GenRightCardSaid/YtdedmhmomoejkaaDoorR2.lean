import Derived.Test.YtdedmhmomoejkaaDoorR1
namespace Go.Proofs.YtdedmhmomoejkaaDoor.V
open Go Go.RowKit Go.Proofs.YtdedmhmomoejkaaDoorW.PrintLast
open Go.Proofs
set_option linter.unusedVariables false
set_option linter.unusedSimpArgs false
attribute [local irreducible] awp
--IMP R1
set_option maxRecDepth 100000
/-- May the row's cells be of the columns? -/
def okR (l : List Co) (r : List Ce) : Prop := r.length = l.length ∧ ∀ (i : Nat) (h : i < l.length) (h2 : i < r.length), okC l[i].ty l[i].nl r[i]
theorem c82 (l : List Co) (r : List Ce) (hl : l.length ≤ 1000) (hr : okR l r) : PC Tryd.prog 82 [.one (.c (rowA 3 cCo l)), .one (.c (rowA 3 cCe r))] [] (fun x bx => x = .bool true ∧ bx = []) := by
  refine enter (rs := [.tmp 4]) mx Tryd.func82 Tryd.ntmps82 fun Q0 hQ0 => ?_
  obtain ⟨hlen, hall⟩ := hr
  unfold rowA
  rw [hlen]
  repeat first | refine nx ?_ | refine sq fun _ _ => ?_ | refine rg (sg ?_) | refine bl ?_ | refine sk (sg ?_) | refine xt (sg ?_) | refine lx (g := sg ?_) | refine ct (hx := ?_) | refine cf (hy := ?_) | refine lr (g := sg ?_) | refine rt (sg ?_) | refine rt ?_ | refine sk ?_ | refine xt ?_ | refine f1 (g := sg ?_) | refine f2 (g := sg ?_) | refine f3 (g := sg ?_) | refine And.intro (by first | assumption | omega) ?_
  refine lp [0, 1, 5] [] (fun k σ => ∃ i : Nat, k = l.length - i ∧ i ≤ l.length ∧ σ = ⟨33, 0, [(0, .one (.c (.sl l.length 3 (elemsOf (l.map cCo))))), (1, .one (.c (.sl l.length 3 (elemsOf (r.map cCe))))), (5, .int .i64 i)], []⟩) l.length ?_ ?_
  · exact ⟨0, by omega, by omega, rfl⟩
  · rintro k σ' ⟨i, hk, hi, rfl⟩ Q1 hQ1
    repeat first | refine nx ?_ | refine sq fun _ _ => ?_ | refine rg (sg ?_) | refine bl ?_ | refine sk (sg ?_) | refine xt (sg ?_) | refine lx (g := sg ?_) | refine ct (hx := ?_) | refine cf (hy := ?_) | refine lr (g := sg ?_) | refine rt (sg ?_) | refine rt ?_ | refine sk ?_ | refine xt ?_ | refine f1 (g := sg ?_) | refine f2 (g := sg ?_) | refine f3 (g := sg ?_) | refine And.intro (by first | assumption | omega) ?_
    refine cb (fun h => ?_) (fun h => ?_)
    · have hin : i < l.length := by omega
      have hin2 : i < r.length := by omega
      have hwi : IntKind.i64.wrap ((i : Int) + 1) = ((i + 1 : Nat) : Int) := by rw [IntKind.wrap_i64]; omega
      have he := el_at (f := cCo) hin
      have he2 := el_at (f := cCe) hin2
      repeat first | refine nx ?_ | refine sq fun _ _ => ?_ | refine rg (sg ?_) | refine bl ?_ | refine sk (sg ?_) | refine xt (sg ?_) | refine lx (g := sg ?_) | refine ct (hx := ?_) | refine cf (hy := ?_) | refine lr (g := sg ?_) | refine rt (sg ?_) | refine rt ?_ | refine sk ?_ | refine xt ?_ | refine f1 (g := sg ?_) | refine f2 (g := sg ?_) | refine f3 (g := sg ?_) | refine And.intro (by first | assumption | omega) ?_
      refine dr [.take 0, .take 1, .take 2, .take 3, .take 4, .take 5, .take 6, .take 7, .take 8, .take 9, .take 10, .take 11, .take 12, .take 13, .one 14, .pure 15] [] (sg ?_)
      simp only [he, he2]
      refine sg ?_
      refine ⟨⟨by omega, by omega⟩, ⟨by omega, by omega⟩, ⟨by omega, by omega⟩, ?_⟩
      refine cl [] (sg ?_)
      refine (c122 _ _ _ (hall i hin hin2)).mono ?_
      rintro r bx ⟨rfl, rfl⟩
      refine sg ?_
      repeat first | refine nx ?_ | refine sq fun _ _ => ?_ | refine rg (sg ?_) | refine bl ?_ | refine sk (sg ?_) | refine xt (sg ?_) | refine lx (g := sg ?_) | refine ct (hx := ?_) | refine cf (hy := ?_) | refine lr (g := sg ?_) | refine rt (sg ?_) | refine rt ?_ | refine sk ?_ | refine xt ?_ | refine f1 (g := sg ?_) | refine f2 (g := sg ?_) | refine f3 (g := sg ?_) | refine And.intro (by first | assumption | omega) ?_
      refine ln (l.length - (i + 1)) [] ?_ ?_
      · omega
      refine ⟨i + 1, rfl, by omega, ?_⟩
      rw [← hwi]
      rfl
    · repeat first | refine nx ?_ | refine sq fun _ _ => ?_ | refine rg (sg ?_) | refine bl ?_ | refine sk (sg ?_) | refine xt (sg ?_) | refine lx (g := sg ?_) | refine ct (hx := ?_) | refine cf (hy := ?_) | refine lr (g := sg ?_) | refine rt (sg ?_) | refine rt ?_ | refine sk ?_ | refine xt ?_ | refine f1 (g := sg ?_) | refine f2 (g := sg ?_) | refine f3 (g := sg ?_) | refine And.intro (by first | assumption | omega) ?_
      exact ax [] ⟨rfl, rfl⟩
def words : List ByteArray := [⟨#[97, 110, 100]⟩, ⟨#[111, 114]⟩, ⟨#[110, 111, 116]⟩, ⟨#[105, 115]⟩, ⟨#[110, 117, 108, 108]⟩, ⟨#[108, 105, 107, 101]⟩, ⟨#[116, 114, 117, 101]⟩, ⟨#[102, 97, 108, 115, 101]⟩, ⟨#[115, 101, 108, 101, 99, 116]⟩, ⟨#[102, 114, 111, 109]⟩, ⟨#[119, 104, 101, 114, 101]⟩, ⟨#[103, 114, 111, 117, 112]⟩, ⟨#[98, 121]⟩, ⟨#[97, 108, 108]⟩, ⟨#[99, 111, 117, 110, 116]⟩, ⟨#[104, 97, 115]⟩, ⟨#[115, 117, 109]⟩, ⟨#[109, 105, 110]⟩, ⟨#[109, 97, 120]⟩]
theorem c81 : PC Tryd.prog 81 [] [] (fun x bx => x = .one (.c (rowA 1 cSt words)) ∧ bx = []) := by
  refine enter (rs := [.tmp 0]) mx Tryd.func81 Tryd.ntmps81 fun Q0 hQ0 => ?_
  repeat first | refine nx ?_ | refine sq fun _ _ => ?_ | refine rg (sg ?_) | refine bl ?_ | refine sk (sg ?_) | refine xt (sg ?_) | refine lx (g := sg ?_) | refine ct (hx := ?_) | refine cf (hy := ?_) | refine lr (g := sg ?_) | refine rt (sg ?_) | refine rt ?_ | refine sk ?_ | refine xt ?_ | refine f1 (g := sg ?_) | refine f2 (g := sg ?_) | refine f3 (g := sg ?_) | refine And.intro (by first | assumption | omega) ?_
  refine ax [] ⟨?_, rfl⟩
  refine congrArg (fun f => A.one (L.c (C.sl 19 1 f))) ?_
  simp only [Nat.zero_add]
  exact vw_lc words cSt
def chr (s : ByteArray) (i : Nat) : Int := (s.data.getD i 0).toNat
/-- May it be a name? -/
def okN (s : ByteArray) : Prop := (∀ i, i < s.size → (97 ≤ chr s i ∧ chr s i ≤ 122) ∨ (i ≠ 0 ∧ ((48 ≤ chr s i ∧ chr s i ≤ 57) ∨ chr s i = 95))) ∧ (∀ x ∈ words, x ≠ s) ∧ 1 ≤ s.size ∧ s.size ≤ 12
theorem c40 (s : ByteArray) (hs : okN s) : PC Tryd.prog 40 [.str s] [] (fun x bx => x = .bool true ∧ bx = []) := by
  refine enter (rs := [.tmp 2]) mx Tryd.func40 Tryd.ntmps40 fun Q0 hQ0 => ?_
  obtain ⟨hc, hw, h1, h12⟩ := hs
  repeat first | refine nx ?_ | refine sq fun _ _ => ?_ | refine rg (sg ?_) | refine bl ?_ | refine sk (sg ?_) | refine xt (sg ?_) | refine lx (g := sg ?_) | refine ct (hx := ?_) | refine cf (hy := ?_) | refine lr (g := sg ?_) | refine rt (sg ?_) | refine rt ?_ | refine sk ?_ | refine xt ?_ | refine f1 (g := sg ?_) | refine f2 (g := sg ?_) | refine f3 (g := sg ?_) | refine And.intro (by first | assumption | omega) ?_
  refine lp [0, 3] [] (fun k σ => ∃ i : Nat, k = s.size - i ∧ i ≤ s.size ∧ σ = ⟨65, 0, [(0, .str s), (3, .int .i64 i)], []⟩) s.size ?_ ?_
  · exact ⟨0, by omega, by omega, rfl⟩
  · rintro k σ' ⟨i, hk, hi, rfl⟩ Q1 hQ1
    repeat first | refine nx ?_ | refine sq fun _ _ => ?_ | refine rg (sg ?_) | refine bl ?_ | refine sk (sg ?_) | refine xt (sg ?_) | refine lx (g := sg ?_) | refine ct (hx := ?_) | refine cf (hy := ?_) | refine lr (g := sg ?_) | refine rt (sg ?_) | refine rt ?_ | refine sk ?_ | refine xt ?_ | refine f1 (g := sg ?_) | refine f2 (g := sg ?_) | refine f3 (g := sg ?_) | refine And.intro (by first | assumption | omega) ?_
    refine cb (fun h => ?_) (fun h => ?_)
    · have hin : i < s.size := by omega
      have hwi : IntKind.i64.wrap ((i : Int) + 1) = ((i + 1 : Nat) : Int) := by rw [IntKind.wrap_i64]; omega
      have hch := hc i hin
      unfold chr at hch
      repeat first | refine nx ?_ | refine sq fun _ _ => ?_ | refine rg (sg ?_) | refine bl ?_ | refine sk (sg ?_) | refine xt (sg ?_) | refine lx (g := sg ?_) | refine ct (hx := ?_) | refine cf (hy := ?_) | refine lr (g := sg ?_) | refine rt (sg ?_) | refine rt ?_ | refine sk ?_ | refine xt ?_ | refine f1 (g := sg ?_) | refine f2 (g := sg ?_) | refine f3 (g := sg ?_) | refine And.intro (by first | assumption | omega) ?_
      generalize ((s.data.getD i 0).toNat : Int) = ch at hch ⊢
      refine ⟨fun h1 => ⟨h1, fun h2 => by rw [h1, decide_eq_false h2]; rfl⟩, ?_⟩
      repeat first | refine nx ?_ | refine sq fun _ _ => ?_ | refine rg (sg ?_) | refine bl ?_ | refine sk (sg ?_) | refine xt (sg ?_) | refine lx (g := sg ?_) | refine ct (hx := ?_) | refine cf (hy := ?_) | refine lr (g := sg ?_) | refine rt (sg ?_) | refine rt ?_ | refine sk ?_ | refine xt ?_ | refine f1 (g := sg ?_) | refine f2 (g := sg ?_) | refine f3 (g := sg ?_) | refine And.intro (by first | assumption | omega) ?_
      refine cb (fun h2 => ?_) (fun h2 => ?_)
      · simp at h2
        omega
      · repeat first | refine nx ?_ | refine sq fun _ _ => ?_ | refine rg (sg ?_) | refine bl ?_ | refine sk (sg ?_) | refine xt (sg ?_) | refine lx (g := sg ?_) | refine ct (hx := ?_) | refine cf (hy := ?_) | refine lr (g := sg ?_) | refine rt (sg ?_) | refine rt ?_ | refine sk ?_ | refine xt ?_ | refine f1 (g := sg ?_) | refine f2 (g := sg ?_) | refine f3 (g := sg ?_) | refine And.intro (by first | assumption | omega) ?_
        refine ln (s.size - (i + 1)) [] ?_ ?_
        · omega
        refine ⟨i + 1, rfl, by omega, ?_⟩
        rw [← hwi]
        rfl
    · repeat first | refine nx ?_ | refine sq fun _ _ => ?_ | refine rg (sg ?_) | refine bl ?_ | refine sk (sg ?_) | refine xt (sg ?_) | refine lx (g := sg ?_) | refine ct (hx := ?_) | refine cf (hy := ?_) | refine lr (g := sg ?_) | refine rt (sg ?_) | refine rt ?_ | refine sk ?_ | refine xt ?_ | refine f1 (g := sg ?_) | refine f2 (g := sg ?_) | refine f3 (g := sg ?_) | refine And.intro (by first | assumption | omega) ?_
      refine cl [] (sg ?_)
      refine c81.mono ?_
      rintro r bx ⟨rfl, rfl⟩
      simp only [rowA]
      refine sg ?_
      repeat first | refine nx ?_ | refine sq fun _ _ => ?_ | refine rg (sg ?_) | refine bl ?_ | refine sk (sg ?_) | refine xt (sg ?_) | refine lx (g := sg ?_) | refine ct (hx := ?_) | refine cf (hy := ?_) | refine lr (g := sg ?_) | refine rt (sg ?_) | refine rt ?_ | refine sk ?_ | refine xt ?_ | refine f1 (g := sg ?_) | refine f2 (g := sg ?_) | refine f3 (g := sg ?_) | refine And.intro (by first | assumption | omega) ?_
      refine lp [0, 7, 8] [] (fun k σ => ∃ i : Nat, k = 19 - i ∧ i ≤ 19 ∧ σ = ⟨65, 0, [(0, .str s), (7, .one (.c (.sl words.length 1 (elemsOf (words.map cSt))))), (8, .int .i64 i)], []⟩) 19 ?_ ?_
      · exact ⟨0, by omega, by omega, rfl⟩
      · rintro k σ' ⟨i, hk, hi, rfl⟩ Q1 hQ1
        have hwl : words.length = 19 := rfl
        repeat first | refine nx ?_ | refine sq fun _ _ => ?_ | refine rg (sg ?_) | refine bl ?_ | refine sk (sg ?_) | refine xt (sg ?_) | refine lx (g := sg ?_) | refine ct (hx := ?_) | refine cf (hy := ?_) | refine lr (g := sg ?_) | refine rt (sg ?_) | refine rt ?_ | refine sk ?_ | refine xt ?_ | refine f1 (g := sg ?_) | refine f2 (g := sg ?_) | refine f3 (g := sg ?_) | refine And.intro (by first | assumption | omega) ?_
        refine cb (fun h => ?_) (fun h => ?_)
        · have hin : i < words.length := by omega
          have hwi : IntKind.i64.wrap ((i : Int) + 1) = ((i + 1 : Nat) : Int) := by rw [IntKind.wrap_i64]; omega
          have he := el_at (f := cSt) hin
          have hne := hw _ (List.getElem_mem hin)
          repeat first | refine nx ?_ | refine sq fun _ _ => ?_ | refine rg (sg ?_) | refine bl ?_ | refine sk (sg ?_) | refine xt (sg ?_) | refine lx (g := sg ?_) | refine ct (hx := ?_) | refine cf (hy := ?_) | refine lr (g := sg ?_) | refine rt (sg ?_) | refine rt ?_ | refine sk ?_ | refine xt ?_ | refine f1 (g := sg ?_) | refine f2 (g := sg ?_) | refine f3 (g := sg ?_) | refine And.intro (by first | assumption | omega) ?_
          simp only [he]
          refine sg ?_
          repeat first | refine nx ?_ | refine sq fun _ _ => ?_ | refine rg (sg ?_) | refine bl ?_ | refine sk (sg ?_) | refine xt (sg ?_) | refine lx (g := sg ?_) | refine ct (hx := ?_) | refine cf (hy := ?_) | refine lr (g := sg ?_) | refine rt (sg ?_) | refine rt ?_ | refine sk ?_ | refine xt ?_ | refine f1 (g := sg ?_) | refine f2 (g := sg ?_) | refine f3 (g := sg ?_) | refine And.intro (by first | assumption | omega) ?_
          refine cb (fun h2 => ?_) (fun h2 => ?_)
          · exact absurd h2 hne
          · repeat first | refine nx ?_ | refine sq fun _ _ => ?_ | refine rg (sg ?_) | refine bl ?_ | refine sk (sg ?_) | refine xt (sg ?_) | refine lx (g := sg ?_) | refine ct (hx := ?_) | refine cf (hy := ?_) | refine lr (g := sg ?_) | refine rt (sg ?_) | refine rt ?_ | refine sk ?_ | refine xt ?_ | refine f1 (g := sg ?_) | refine f2 (g := sg ?_) | refine f3 (g := sg ?_) | refine And.intro (by first | assumption | omega) ?_
            refine ln (19 - (i + 1)) [] ?_ ?_
            · omega
            refine ⟨i + 1, rfl, by omega, ?_⟩
            rw [← hwi]
            rfl
        · repeat first | refine nx ?_ | refine sq fun _ _ => ?_ | refine rg (sg ?_) | refine bl ?_ | refine sk (sg ?_) | refine xt (sg ?_) | refine lx (g := sg ?_) | refine ct (hx := ?_) | refine cf (hy := ?_) | refine lr (g := sg ?_) | refine rt (sg ?_) | refine rt ?_ | refine sk ?_ | refine xt ?_ | refine f1 (g := sg ?_) | refine f2 (g := sg ?_) | refine f3 (g := sg ?_) | refine And.intro (by first | assumption | omega) ?_
          refine ax [] ⟨?_, rfl⟩
          refine congrArg A.bool ?_
          simp
          omega
end Go.Proofs.YtdedmhmomoejkaaDoor.V
