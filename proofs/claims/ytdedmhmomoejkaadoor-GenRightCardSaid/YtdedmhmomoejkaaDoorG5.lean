import Derived.Test.YtdedmhmomoejkaaDoorG4
namespace Go.Proofs.YtdedmhmomoejkaaDoor.V
open Go Go.RowKit Go.Proofs.YtdedmhmomoejkaaDoorW.PrintLast
open Go.Proofs
set_option linter.unusedVariables false
set_option linter.unusedSimpArgs false
attribute [local irreducible] awp
--IMP G4
set_option maxRecDepth 100000
theorem rowS_snoc (l : List Co) (c : Co) (a : Int) : rowS (l ++ [c]) a = ((rowS l a).1 ++ [(cellS c.ty (rowS l a).2).1], (cellS c.ty (rowS l a).2).2) := by
  unfold rowS
  rw [List.foldl_append]
  rfl
theorem rowS_len' (l : List Co) : ∀ (s : List Ce × Int), (l.foldl (fun s c => (s.1 ++ [(cellS c.ty s.2).1], (cellS c.ty s.2).2)) s).1.length = s.1.length + l.length := by
  induction l with
  | nil => intro s; rfl
  | cons c l ih => intro s; rw [List.foldl_cons, ih]; simp; omega
theorem rowS_len (l : List Co) (a : Int) : (rowS l a).1.length = l.length := by
  have := rowS_len' l ([], a)
  simpa [rowS] using this
theorem rowsS_len (cols : List Co) (n : Nat) (a : Int) : (rowsS cols n a).1.length = n := by
  induction n with
  | zero => rfl
  | succ n ih => simp [rowsS, ih]
/-- A row of rows, some of them made, the others nil. -/
def outR (cols : List Co) (n i : Nat) (a : Int) : List (List L) := ((rowsS cols i a).1.map fun r => lc (cRow r)) ++ List.replicate (n - i) [L.c (.v (.slice none 0 0))]
theorem outR_len (cols : List Co) (n i : Nat) (a : Int) (h : i ≤ n) : (outR cols n i a).length = n := by
  unfold outR
  rw [List.length_append, List.length_map, rowsS_len, List.length_replicate]; omega
theorem outR_at (cols : List Co) (n i : Nat) (a : Int) (h : i < n) : (outR cols n i a).getD i [] = [L.c (.v (.slice none 0 0))] := by
  unfold outR
  rw [List.getD_eq_getElem?_getD, List.getElem?_append_right (by rw [List.length_map, rowsS_len]; exact Nat.le_refl _), List.length_map, rowsS_len, Nat.sub_self, List.getElem?_replicate, if_pos (by omega)]
  rfl
theorem outR_set (cols : List Co) (n i : Nat) (a : Int) (h : i < n) (r : List Ce) (hr : r = (rowS cols (rowsS cols i a).2).1) : (outR cols n i a).set i [L.c (rowA 3 cCe r)] = outR cols n (i + 1) a := by
  unfold outR
  rw [List.set_append_right _ _ (by rw [List.length_map, rowsS_len]; exact Nat.le_refl _), List.length_map, rowsS_len, Nat.sub_self]
  obtain ⟨m, hm⟩ : ∃ m, n - i = m + 1 := ⟨n - i - 1, by omega⟩
  have e2 : n - (i + 1) = m := by omega
  rw [hm, e2, List.replicate_succ, List.set_cons_zero]
  simp only [rowsS, List.map_append, List.map_cons, List.map_nil, List.append_assoc, List.cons_append, List.nil_append, hr]
  rfl
theorem outR_map (cols : List Co) (n i : Nat) (a : Int) (bx : List B) (ρ : Nat → Option Nat) : (outR cols n i a).map (fun e => e.map (subL bx ρ)) = outR cols n i a := by
  unfold outR
  rw [List.map_append, List.map_map, List.map_replicate]
  rfl
theorem set_get {α : Type} (l : List α) (i : Nat) (x d : α) (h : i < l.length) : (l.set i x).getD i d = x := by
  rw [List.getD_eq_getElem?_getD, List.getElem?_set]; simp [h]
theorem getD_same {α : Type} (l : List α) (i : Nat) (d : α) (h : i < l.length) : l.getD i d = l[i]'h := by
  rw [List.getD_eq_getElem?_getD, List.getElem?_eq_getElem h]; rfl
theorem rows_map (l : List Ce) (bx : List B) (ρ : Nat → Option Nat) : (l.map fun x => lc (cCe x)).map (fun e => e.map (subL bx ρ)) = l.map fun x => lc (cCe x) := by
  rw [List.map_map]; rfl
theorem view_own {α : Type} (f : α → List C) (l : List α) {bx : List B} {id sz n e : Nat} (h : bx[id]? = some (.arr (l.map fun x => lc (f x)) sz e)) (hn : l.length = n) : viewL bx (.own id sz 0 n) = .c (rowA sz f l) := by
  unfold viewL
  simp only [h]
  rw [if_pos ⟨trivial, by rw [List.length_map]; omega⟩]
  subst hn
  unfold rowA
  rw [← vw_lc]
  simp only [Nat.zero_add]
theorem c75 (cols : List Co) (a : Int) (h0 : cols ≠ []) (hc : cols.length ≤ 3) : PC Tryd.prog 75 [dA, .one (.c (rowA 3 cCo cols))] [dB a] (fun r bx => r = .one (.c (rowA 1 cRow (rows1 cols a).1)) ∧ bx = [dB (rows1 cols a).2]) := by
  refine enter (rs := [.tmp 4]) mx Tryd.func75 Tryd.ntmps75 fun Q0 hQ0 => ?_
  unfold rowA
  repeat first | refine nx ?_ | refine sq fun _ _ => ?_ | refine rg (sg ?_) | refine bl ?_ | refine sk (sg ?_) | refine xt (sg ?_) | refine lx (g := sg ?_) | refine ct (hx := ?_) | refine cf (hy := ?_) | refine lr (g := sg ?_) | refine rt (sg ?_) | refine rt ?_ | refine sk ?_ | refine xt ?_ | refine f1 (g := sg ?_) | refine f2 (g := sg ?_) | refine f3 (g := sg ?_) | refine And.intro (by first | assumption | omega) ?_
  refine cl [0] (sg ?_)
  refine (c73 4 a (by omega) (by omega)).mono ?_
  rintro r bx ⟨rfl, rfl⟩
  refine sg ?_
  have hd := drw_rng 4 a (by omega) (by omega)
  obtain ⟨n, hn⟩ : ∃ n : Nat, 1 + drw 4 a = (n : Int) := ⟨(1 + drw 4 a).toNat, by omega⟩
  have hn4 : 1 ≤ n ∧ n ≤ 4 := by omega
  have hw : IntKind.i64.wrap (1 + drw 4 a) = (n : Int) := by rw [IntKind.wrap_i64]; omega
  simp only [hw, Int.toNat_natCast]
  refine ⟨by omega, by omega, by simp only [maxLen]; omega, by omega, ?_⟩
  repeat first | refine nx ?_ | refine sq fun _ _ => ?_ | refine rg (sg ?_) | refine bl ?_ | refine sk (sg ?_) | refine xt (sg ?_) | refine lx (g := sg ?_) | refine ct (hx := ?_) | refine cf (hy := ?_) | refine lr (g := sg ?_) | refine rt (sg ?_) | refine rt ?_ | refine sk ?_ | refine xt ?_ | refine f1 (g := sg ?_) | refine f2 (g := sg ?_) | refine f3 (g := sg ?_) | refine And.intro (by first | assumption | omega) ?_
  refine lp [0, 1, 5, 14, 15] [1] (fun k σ => ∃ i : Nat, k = n - i ∧ i ≤ n ∧ σ = ⟨39, 1, [(0, dA), (1, .one (.c (.sl cols.length 3 (elemsOf (cols.map cCo))))), (5, .one (.own 1 1 0 n)), (14, .int .i64 n), (15, .int .i64 i)],
    [dB (rowsS cols i (nxt a)).2, .arr (outR cols n i (nxt a)) 1 98]⟩) n ?_ ?_
  · refine ⟨0, by omega, by omega, ?_⟩
    refine sg ?_
    have e0 : List.replicate n [L.c (.v (.slice none 0 0))] = outR cols n 0 (nxt a) := by simp [outR, rowsS]
    rw [e0, outR_map]
    rfl
  · rintro k σ' ⟨i, hk, hi, rfl⟩ Q1 hQ1
    repeat first | refine nx ?_ | refine sq fun _ _ => ?_ | refine rg (sg ?_) | refine bl ?_ | refine sk (sg ?_) | refine xt (sg ?_) | refine lx (g := sg ?_) | refine ct (hx := ?_) | refine cf (hy := ?_) | refine lr (g := sg ?_) | refine rt (sg ?_) | refine rt ?_ | refine sk ?_ | refine xt ?_ | refine f1 (g := sg ?_) | refine f2 (g := sg ?_) | refine f3 (g := sg ?_) | refine And.intro (by first | assumption | omega) ?_
    refine cb (fun h => ?_) (fun h => ?_)
    · have hin : i < n := by omega
      repeat first | refine nx ?_ | refine sq fun _ _ => ?_ | refine rg (sg ?_) | refine bl ?_ | refine sk (sg ?_) | refine xt (sg ?_) | refine lx (g := sg ?_) | refine ct (hx := ?_) | refine cf (hy := ?_) | refine lr (g := sg ?_) | refine rt (sg ?_) | refine rt ?_ | refine sk ?_ | refine xt ?_ | refine f1 (g := sg ?_) | refine f2 (g := sg ?_) | refine f3 (g := sg ?_) | refine And.intro (by first | assumption | omega) ?_
      refine lp [0, 1, 5, 6, 14, 15, 18, 19, 20] [1] (fun k σ => ∃ j : Nat, k = cols.length - j ∧ j ≤ cols.length ∧ ∃ X, σ = ⟨39, 1, [(0, dA), (1, .one (.c (.sl cols.length 3 (elemsOf (cols.map cCo))))), (5, .one (.own 1 1 0 n)), (6, .int .i64 i), (14, .int .i64 n), (15, .int .i64 i), (18, .one (.c (.sl cols.length 3 (elemsOf (cols.map cCo))))), (19, .int .i64 cols.length), (20, .int .i64 j)],
        dB (rowS (cols.take j) (rowsS cols i (nxt a)).2).2 :: X⟩ ∧
        ((j = 0 ∧ X = [.arr (outR cols n i (nxt a)) 1 98]) ∨ (0 < j ∧ X = [.arr ((outR cols n i (nxt a)).set i [L.own 2 3 0 j]) 1 98, .arr ((rowS (cols.take j) (rowsS cols i (nxt a)).2).1.map fun x => lc (cCe x)) 3 35]))) cols.length ?_ ?_
      · refine ⟨0, by omega, by omega, _, ?_, .inl ⟨rfl, rfl⟩⟩
        refine sg ?_
        rw [outR_map]
        rfl
      · rintro k2 σ2 ⟨j, hk2, hj, X, rfl, hX⟩ Q2 hQ2
        repeat first | refine nx ?_ | refine sq fun _ _ => ?_ | refine rg (sg ?_) | refine bl ?_ | refine sk (sg ?_) | refine xt (sg ?_) | refine lx (g := sg ?_) | refine ct (hx := ?_) | refine cf (hy := ?_) | refine lr (g := sg ?_) | refine rt (sg ?_) | refine rt ?_ | refine sk ?_ | refine xt ?_ | refine f1 (g := sg ?_) | refine f2 (g := sg ?_) | refine f3 (g := sg ?_) | refine And.intro (by first | assumption | omega) ?_
        refine cb (fun h2 => ?_) (fun h2 => ?_)
        · have hjn : j < cols.length := by omega
          have hin' : i < (outR cols n i (nxt a)).length := by rw [outR_len _ _ _ _ hi]; exact hin
          have he := el_at (f := cCo) hjn
          have hwj : IntKind.i64.wrap ((j : Int) + 1) = ((j + 1 : Nat) : Int) := by rw [IntKind.wrap_i64]; omega
          have ht : cols.take (j + 1) = cols.take j ++ [cols[j]] := by rw [List.take_add_one, List.getElem?_eq_getElem hjn]; rfl
          rcases hX with ⟨hj0, rfl⟩ | ⟨hj0, rfl⟩
          · repeat first | refine nx ?_ | refine sq fun _ _ => ?_ | refine rg (sg ?_) | refine bl ?_ | refine sk (sg ?_) | refine xt (sg ?_) | refine lx (g := sg ?_) | refine ct (hx := ?_) | refine cf (hy := ?_) | refine lr (g := sg ?_) | refine rt (sg ?_) | refine rt ?_ | refine sk ?_ | refine xt ?_ | refine f1 (g := sg ?_) | refine f2 (g := sg ?_) | refine f3 (g := sg ?_) | refine And.intro (by first | assumption | omega) ?_
            simp only [he]
            refine sg ?_
            repeat first | refine nx ?_ | refine sq fun _ _ => ?_ | refine rg (sg ?_) | refine bl ?_ | refine sk (sg ?_) | refine xt (sg ?_) | refine lx (g := sg ?_) | refine ct (hx := ?_) | refine cf (hy := ?_) | refine lr (g := sg ?_) | refine rt (sg ?_) | refine rt ?_ | refine sk ?_ | refine xt ?_ | refine f1 (g := sg ?_) | refine f2 (g := sg ?_) | refine f3 (g := sg ?_) | refine And.intro (by first | assumption | omega) ?_
            refine dr [.take 2, .take 3, .take 4, .take 5, .take 6, .take 7, .pure 0, .pure 1, .one 8, .one 9, .last 10, .pure 11, .last 12] [0] (sg ?_)
            simp only [outR_at _ _ _ _ hin]
            refine sg ?_
            refine ⟨⟨by omega, by omega⟩, by omega, ?_⟩
            refine cl [0] (sg ?_)
            refine (c120 cols[j] _).mono ?_
            rintro r bx ⟨rfl, rfl⟩
            refine sg ?_
            refine ⟨⟨by omega, by omega⟩, hin', ?_⟩
            repeat first | refine nx ?_ | refine sq fun _ _ => ?_ | refine rg (sg ?_) | refine bl ?_ | refine sk (sg ?_) | refine xt (sg ?_) | refine lx (g := sg ?_) | refine ct (hx := ?_) | refine cf (hy := ?_) | refine lr (g := sg ?_) | refine rt (sg ?_) | refine rt ?_ | refine sk ?_ | refine xt ?_ | refine f1 (g := sg ?_) | refine f2 (g := sg ?_) | refine f3 (g := sg ?_) | refine And.intro (by first | assumption | omega) ?_
            refine ln (cols.length - (j + 1)) [1, 4] ?_ ?_
            · omega
            refine ⟨j + 1, rfl, by omega, _, ?_, .inr ⟨by omega, rfl⟩⟩
            simp only [outR_at _ _ _ _ hin, hwj]
            refine sg ?_
            simp only [List.map_set, outR_map, ht, rowS_snoc]
            subst hj0
            rfl
          · repeat first | refine nx ?_ | refine sq fun _ _ => ?_ | refine rg (sg ?_) | refine bl ?_ | refine sk (sg ?_) | refine xt (sg ?_) | refine lx (g := sg ?_) | refine ct (hx := ?_) | refine cf (hy := ?_) | refine lr (g := sg ?_) | refine rt (sg ?_) | refine rt ?_ | refine sk ?_ | refine xt ?_ | refine f1 (g := sg ?_) | refine f2 (g := sg ?_) | refine f3 (g := sg ?_) | refine And.intro (by first | assumption | omega) ?_
            simp only [he]
            refine sg ?_
            repeat first | refine nx ?_ | refine sq fun _ _ => ?_ | refine rg (sg ?_) | refine bl ?_ | refine sk (sg ?_) | refine xt (sg ?_) | refine lx (g := sg ?_) | refine ct (hx := ?_) | refine cf (hy := ?_) | refine lr (g := sg ?_) | refine rt (sg ?_) | refine rt ?_ | refine sk ?_ | refine xt ?_ | refine f1 (g := sg ?_) | refine f2 (g := sg ?_) | refine f3 (g := sg ?_) | refine And.intro (by first | assumption | omega) ?_
            refine dr [.take 2, .take 3, .take 4, .take 5, .take 6, .take 7, .pure 0, .pure 1, .one 8, .one 9, .last 10, .pure 11, .last 12] [0] (sg ?_)
            simp only [set_get _ _ _ _ hin']
            refine sg ?_
            refine ⟨⟨by omega, by omega⟩, by rw [List.length_set]; exact hin', ?_⟩
            refine cl [0] (sg ?_)
            refine (c120 cols[j] _).mono ?_
            rintro r bx ⟨rfl, rfl⟩
            refine sg ?_
            have hrl : (rowS (cols.take j) (rowsS cols i (nxt a)).2).1.length = j := by rw [rowS_len, List.length_take]; omega
            refine ⟨Nat.le_of_eq hrl.symm, by omega, by simp only [maxLen]; omega, ⟨by omega, by omega⟩, by rw [List.length_set]; exact hin', ?_⟩
            repeat first | refine nx ?_ | refine sq fun _ _ => ?_ | refine rg (sg ?_) | refine bl ?_ | refine sk (sg ?_) | refine xt (sg ?_) | refine lx (g := sg ?_) | refine ct (hx := ?_) | refine cf (hy := ?_) | refine lr (g := sg ?_) | refine rt (sg ?_) | refine rt ?_ | refine sk ?_ | refine xt ?_ | refine f1 (g := sg ?_) | refine f2 (g := sg ?_) | refine f3 (g := sg ?_) | refine And.intro (by first | assumption | omega) ?_
            refine ln (cols.length - (j + 1)) [1, 5] ?_ ?_
            · omega
            refine ⟨j + 1, rfl, by omega, _, ?_, .inr ⟨by omega, rfl⟩⟩
            simp only [set_get _ _ _ _ hin', List.set_set, List.take_of_length_le (show (List.map (fun x => lc (cCe x)) (rowS (cols.take j) (rowsS cols i (nxt a)).2).1).length ≤ j by rw [List.length_map, hrl]; exact Nat.le_refl _), hwj]
            refine sg ?_
            simp only [List.map_set, outR_map, ht, rowS_snoc, List.map_append, rows_map]
            rfl
        · have hjn : j = cols.length := by omega
          rcases hX with ⟨hj0, rfl⟩ | ⟨hj0, rfl⟩
          · exact absurd (List.length_eq_zero_iff.mp (by omega)) h0
          · repeat first | refine nx ?_ | refine sq fun _ _ => ?_ | refine rg (sg ?_) | refine bl ?_ | refine sk (sg ?_) | refine xt (sg ?_) | refine lx (g := sg ?_) | refine ct (hx := ?_) | refine cf (hy := ?_) | refine lr (g := sg ?_) | refine rt (sg ?_) | refine rt ?_ | refine sk ?_ | refine xt ?_ | refine f1 (g := sg ?_) | refine f2 (g := sg ?_) | refine f3 (g := sg ?_) | refine And.intro (by first | assumption | omega) ?_
            have hwi : IntKind.i64.wrap ((i : Int) + 1) = ((i + 1 : Nat) : Int) := by rw [IntKind.wrap_i64]; omega
            have hrl : (rowS (cols.take j) (rowsS cols i (nxt a)).2).1.length = j := by rw [rowS_len, List.length_take]; omega
            refine ln (n - (i + 1)) [1] ?_ ?_
            · omega
            refine ⟨i + 1, rfl, by omega, ?_⟩
            simp only [hwi]
            refine sg ?_
            have htk : cols.take j = cols := by rw [hjn]; exact List.take_length
            rw [htk] at hrl ⊢
            rw [List.map_set, outR_map, ← outR_set cols n i (nxt a) hin _ rfl, ← view_own cCe _ (bx := [dB (rowS cols (rowsS cols i (nxt a)).2).2, B.arr ((outR cols n i (nxt a)).set i [L.own 2 3 0 j]) 1 98, B.arr ((rowS cols (rowsS cols i (nxt a)).2).1.map fun x => lc (cCe x)) 3 35]) (id := 2) (e := 35) rfl hrl]
            rfl
    · repeat first | refine nx ?_ | refine sq fun _ _ => ?_ | refine rg (sg ?_) | refine bl ?_ | refine sk (sg ?_) | refine xt (sg ?_) | refine lx (g := sg ?_) | refine ct (hx := ?_) | refine cf (hy := ?_) | refine lr (g := sg ?_) | refine rt (sg ?_) | refine rt ?_ | refine sk ?_ | refine xt ?_ | refine f1 (g := sg ?_) | refine f2 (g := sg ?_) | refine f3 (g := sg ?_) | refine And.intro (by first | assumption | omega) ?_
      have hin : i = n := by omega
      subst hin
      have hr1 : rows1 cols a = rowsS cols i (nxt a) := by
        unfold rows1
        simp only [hn, Int.toNat_natCast]
      have ho : outR cols i i (nxt a) = (rowsS cols i (nxt a)).1.map fun r => lc (cRow r) := by
        unfold outR
        rw [Nat.sub_self]
        exact List.append_nil _
      rw [ho, hr1]
      refine ax [] ⟨?_, rfl⟩
      rw [← view_own cRow _ (bx := [dB (rowsS cols i (nxt a)).2, B.arr ((rowsS cols i (nxt a)).1.map fun r => lc (cRow r)) 1 98]) (id := 1) (e := 98) rfl (rowsS_len cols i _)]
      rfl
end Go.Proofs.YtdedmhmomoejkaaDoor.V
