import Derived.Test.YtcbfkokdkadalaaDoorB9
import Derived.Test.YtcbfkokdkadalaaDoorB2
import Derived.ChangeArms
namespace Go.Proofs.YtcbfkokdkadalaaDoor.V
open Go Go.RowKit Go.Proofs.YtcbfkokdkadalaaDoorW.PrintLast
open Go.Proofs
set_option linter.unusedVariables false
set_option linter.unusedSimpArgs false
attribute [local irreducible] awp
set_option maxRecDepth 100000
/-! A predicate that came in: what its cells hold is a predicate's content. -/
theorem choose_list {α : Type} {Q : Nat → α → Prop} : ∀ (n : Nat), (∀ i, i < n → ∃ x, Q i x) → ∃ l : List α, l.length = n ∧ ∀ (i : Nat) (h : i < l.length), Q i l[i]
  | 0, _ => ⟨[], rfl, fun i h => absurd h (Nat.not_lt_zero _)⟩
  | n + 1, h => by
    obtain ⟨l, h1, h2⟩ := choose_list n fun i hi => h i (by omega)
    obtain ⟨x, hx⟩ := h n (by omega)
    refine ⟨l ++ [x], by simp [h1], fun i hi => ?_⟩
    by_cases hil : i < l.length
    · rw [List.getElem_append_left hil]
      exact h2 i hil
    · have hie : i = l.length := by simp at hi; omega
      subst hie
      simp [h1, hx]
theorem cells9 {w : World} {a : Addr} {cs : List Value} (h : w.cells? 0 a 9 = some cs) : cs.length = 9 ∧ ∀ j, j < 9 → w.cell? (a.add j) = cs[j]? := by
  unfold World.cells? at h
  rw [if_pos (Nat.zero_le _)] at h
  simp only [show List.range 9 = [0, 1, 2, 3, 4, 5, 6, 7, 8] from rfl, List.mapM_cons, List.mapM_nil, Option.bind_eq_bind, Option.pure_def, Option.bind_eq_some_iff, Option.some.injEq] at h
  obtain ⟨x0, e0, l0, ⟨x1, e1, l1, ⟨x2, e2, l2, ⟨x3, e3, l3, ⟨x4, e4, l4, ⟨x5, e5, l5, ⟨x6, e6, l6, ⟨x7, e7, l7, ⟨x8, e8, l8, rfl, rfl⟩, rfl⟩, rfl⟩, rfl⟩, rfl⟩, rfl⟩, rfl⟩, rfl⟩, rfl⟩ := h
  refine ⟨rfl, fun j hj => ?_⟩
  match j, hj with
  | 0, _ => exact e0
  | 1, _ => exact e1
  | 2, _ => exact e2
  | 3, _ => exact e3
  | 4, _ => exact e4
  | 5, _ => exact e5
  | 6, _ => exact e6
  | 7, _ => exact e7
  | 8, _ => exact e8
theorem cell_lt {w : World} {a : Addr} {v : Value} (h : w.cell? a = some v) : a.block < w.heap.size := by
  rcases Nat.lt_or_ge a.block w.heap.size with h' | h'
  · exact h'
  · simp [World.cell?, Array.getElem?_eq_none h'] at h
theorem wf64 {n : Int} (h : (Lit.int .i64 n).wf = true) : -9223372036854775808 ≤ n ∧ n ≤ 9223372036854775807 := by
  simp only [Lit.wf, IntKind.min, IntKind.max, IntKind.signed, IntKind.bits] at h
  simp at h
  omega
abbrev vPr (p : Pr) (u : Value) : List Value := [.int .i64 p.op, .string p.col, .int .i64 p.cmp, .bool p.val.nl, .int .i64 p.val.i, .string p.val.s, .int .i64 p.kind, .string p.pat, u]
theorem open_pr {H : Type} {enc : TypeId × Value → H} {W : World} {sp : Nat → Bool} : ∀ (N n : Nat) (cs : List Value) (x : DataW H × List MemPlace), n ≤ N → DataW.trod enc Tryd.prog W 0 sp true n 26 cs = some x →
    ∃ (p : Pr) (u : Value), cs = vPr p u ∧ RC (fun k => k < W.heap.size) W (.sl p.kids.length 9 (elemsOf (p.kids.map cPr))) u ∧ Rg p := by
  intro N
  induction N with
  | zero =>
    intro n cs x hn h
    obtain rfl : n = 0 := by omega
    simp [DataW.trod] at h
  | succ N ih =>
    intro n cs x hn h
    obtain ⟨xs, m, rfl, -, hcl, hxl, hf⟩ := DataW.trod_struct Tryd.underlying26 h
    have c35 : Tryd.prog.cellsOf 26 = 9 := by kernel_rfl
    have c32 : Tryd.prog.cellsOf 23 = 3 := by kernel_rfl
    have c33 : Tryd.prog.cellsOf 24 = 1 := by kernel_rfl
    have c3 : Tryd.prog.cellsOf 3 = 1 := by kernel_rfl
    have c9 : Tryd.prog.cellsOf 9 = 1 := by kernel_rfl
    have c2 : Tryd.prog.cellsOf 2 = 1 := by kernel_rfl
    have c4 : Tryd.prog.cellsOf 4 = 1 := by kernel_rfl
    rw [c35] at hcl
    match cs, hcl with
    | [a0, a1, a2, a3, a4, a5, a6, a7, a8], _ =>
    match xs, hxl with
    | [y0, y1, y2, y3, y4, y5, y6], _ =>
    have f0 : DataW.trod enc Tryd.prog W 0 sp true m 3 (List.take (Tryd.prog.cellsOf 3) (List.drop 0 [a0, a1, a2, a3, a4, a5, a6, a7, a8])) = some y0 := hf 0 _ rfl
    rw [c3] at f0
    have f1 : DataW.trod enc Tryd.prog W 0 sp true m 9 (List.take (Tryd.prog.cellsOf 9) (List.drop 1 [a0, a1, a2, a3, a4, a5, a6, a7, a8])) = some y1 := hf 1 _ rfl
    rw [c9] at f1
    have f2 : DataW.trod enc Tryd.prog W 0 sp true m 3 (List.take (Tryd.prog.cellsOf 3) (List.drop 2 [a0, a1, a2, a3, a4, a5, a6, a7, a8])) = some y2 := hf 2 _ rfl
    rw [c3] at f2
    have f3 : DataW.trod enc Tryd.prog W 0 sp true m 23 (List.take (Tryd.prog.cellsOf 23) (List.drop 3 [a0, a1, a2, a3, a4, a5, a6, a7, a8])) = some y3 := hf 3 _ rfl
    rw [c32] at f3
    have f4 : DataW.trod enc Tryd.prog W 0 sp true m 3 (List.take (Tryd.prog.cellsOf 3) (List.drop 6 [a0, a1, a2, a3, a4, a5, a6, a7, a8])) = some y4 := hf 4 _ rfl
    rw [c3] at f4
    have f5 : DataW.trod enc Tryd.prog W 0 sp true m 9 (List.take (Tryd.prog.cellsOf 9) (List.drop 7 [a0, a1, a2, a3, a4, a5, a6, a7, a8])) = some y5 := hf 5 _ rfl
    rw [c9] at f5
    have f6 : DataW.trod enc Tryd.prog W 0 sp true m 24 (List.take (Tryd.prog.cellsOf 24) (List.drop 8 [a0, a1, a2, a3, a4, a5, a6, a7, a8])) = some y6 := hf 6 _ rfl
    rw [c33] at f6
    clear hf h
    obtain ⟨o, e0, -, -⟩ := DataW.trod_int (cs := [a0]) Tryd.underlying3 f0
    obtain ⟨col, e1, -, -⟩ := DataW.trod_string (cs := [a1]) Tryd.underlying9 f1
    obtain ⟨cm, e2, -, -⟩ := DataW.trod_int (cs := [a2]) Tryd.underlying3 f2
    obtain ⟨kd, e4, -, -⟩ := DataW.trod_int (cs := [a6]) Tryd.underlying3 f4
    obtain ⟨pt, e5, -, -⟩ := DataW.trod_string (cs := [a7]) Tryd.underlying9 f5
    obtain ⟨zs, q, rfl, -, -, hzl, hz⟩ := DataW.trod_struct (cs := [a3, a4, a5]) Tryd.underlying23 f3
    match zs, hzl with
    | [z0, z1, z2], _ =>
    have g0 : DataW.trod enc Tryd.prog W 0 sp true q 4 (List.take (Tryd.prog.cellsOf 4) (List.drop 0 [a3, a4, a5])) = some z0 := hz 0 _ rfl
    have g1 : DataW.trod enc Tryd.prog W 0 sp true q 2 (List.take (Tryd.prog.cellsOf 2) (List.drop 1 [a3, a4, a5])) = some z1 := hz 1 _ rfl
    have g2 : DataW.trod enc Tryd.prog W 0 sp true q 9 (List.take (Tryd.prog.cellsOf 9) (List.drop 2 [a3, a4, a5])) = some z2 := hz 2 _ rfl
    rw [c4] at g0
    rw [c2] at g1
    rw [c9] at g2
    clear hz
    obtain ⟨vn, e30, -⟩ := DataW.trod_bool (cs := [a3]) Tryd.underlying4 g0
    obtain ⟨vi, e31, -, hvi⟩ := DataW.trod_int (cs := [a4]) Tryd.underlying2 g1
    obtain ⟨vs, e32, -, -⟩ := DataW.trod_string (cs := [a5]) Tryd.underlying9 g2
    obtain ⟨hv0, hv1⟩ := wf64 hvi
    injection e0 with e0; injection e1 with e1; injection e2 with e2; injection e4 with e4; injection e5 with e5; injection e30 with e30; injection e31 with e31; injection e32 with e32
    subst e0 e1 e2 e4 e5 e30 e31 e32
    rcases DataW.trod_slice (cs := [a8]) Tryd.underlying24 f6 with ⟨e6, -⟩ | ⟨a, len, cap, elems, rest, r, hr, e6, -, -, hlc, hcm, hel, helem, -, -⟩
    · injection e6 with e6
      subst e6
      refine ⟨.mk o col cm ⟨vn, vi, vs⟩ kd pt [], _, rfl, ⟨none, 0, rfl, ⟨Nat.le_refl _, Nat.zero_le _⟩, fun i hi => absurd hi (Nat.not_lt_zero _)⟩, .mk _ hv0 hv1 fun x hx => (nomatch hx)⟩
    · injection e6 with e6
      subst e6
      rw [c35] at helem
      obtain ⟨l, hl, hQ⟩ := choose_list (Q := fun i (p : Pr) => ∃ (u : Value), W.cells? 0 (a.add (i * 9)) 9 = some (vPr p u) ∧ RC (fun k => k < W.heap.size) W (.sl p.kids.length 9 (elemsOf (p.kids.map cPr))) u ∧ Rg p) len fun i hi => by
        have h1 := helem i hi
        rw [List.getElem?_eq_getElem (by omega), Option.bind_eq_some_iff] at h1
        obtain ⟨ci, h2, h3⟩ := h1
        obtain ⟨p, u, rfl, h4, h5⟩ := ih r ci _ (by omega) h3
        exact ⟨p, u, h2, h4, h5⟩
      refine ⟨.mk o col cm ⟨vn, vi, vs⟩ kd pt l, _, rfl, ?_, .mk _ hv0 hv1 fun x hx => ?_⟩
      · subst hl
        refine ⟨some a, cap, rfl, ⟨hlc, Nat.le_trans (Nat.le_trans hlc hcm) (by simp [maxLen])⟩, fun i hi j hj => ?_⟩
        obtain ⟨u, h1, h2, _⟩ := hQ i hi
        obtain ⟨-, hc⟩ := cells9 h1
        have hee := el_at (f := cPr) (l := l) (i := i) hi
        have hcj := hc j hj
        rw [add_add] at hcj
        have hv : ∃ v, (vPr l[i] u)[j]? = some v := ⟨_, List.getElem?_eq_getElem (by simpa using hj)⟩
        obtain ⟨v, hv⟩ := hv
        rw [hv] at hcj
        refine ⟨a, v, rfl, ?_, hcj, ?_⟩
        · have := cell_lt hcj
          rw [add_block] at this
          exact this
        · show RC _ _ (elemsOf (l.map cPr) i j) v
          rw [hee]
          match j, hj with
          | 0, _ => rw [el_Pr0]; exact (Option.some.inj hv).symm
          | 1, _ => rw [el_Pr1]; exact (Option.some.inj hv).symm
          | 2, _ => rw [el_Pr2]; exact (Option.some.inj hv).symm
          | 3, _ => rw [el_Pr3]; exact (Option.some.inj hv).symm
          | 4, _ => rw [el_Pr4]; exact (Option.some.inj hv).symm
          | 5, _ => rw [el_Pr5]; exact (Option.some.inj hv).symm
          | 6, _ => rw [el_Pr6]; exact (Option.some.inj hv).symm
          | 7, _ => rw [el_Pr7]; exact (Option.some.inj hv).symm
          | 8, _ => rw [el_Pr8]; obtain rfl := Option.some.inj hv; exact h2
      · obtain ⟨i, hi, rfl⟩ := List.getElem_of_mem hx
        obtain ⟨u, -, -, h3⟩ := hQ i hi
        exact h3

end Go.Proofs.YtcbfkokdkadalaaDoor.V
