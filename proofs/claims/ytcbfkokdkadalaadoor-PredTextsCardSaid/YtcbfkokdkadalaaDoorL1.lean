import Derived.Test.YtcbfkokdkadalaaDoorB10
import Derived.Test.YtcbfkokdkadalaaDoorB8
import Derived.Test.YtcbfkokdkadalaaDoorC1
import Derived.WalkKit
import Derived.BigCall
import Derived.Laws.ResultCell
import Derived.Laws.Rows
import Derived.Laws.Tables
import Derived.Laws.AppendOwn
namespace Go.Proofs.YtcbfkokdkadalaaDoor.V
open Go Go.RowKit Go.Proofs.YtcbfkokdkadalaaDoorW.PrintLast
open Go.Proofs
set_option linter.unusedVariables false
set_option linter.unusedSimpArgs false
attribute [local irreducible] awp
set_option maxRecDepth 100000
theorem sz_cnt {p : Pr} (h : mayP p = true) : p.cnt ≤ 16 ∧ p.dep ≤ 6 ∧ oneP p = true := by
  unfold mayP at h
  rw [Bool.and_eq_true, decide_eq_true_eq] at h
  have h2 := szP_is 6 16 p (by omega)
  by_cases hs : p.dep ≤ 6 ∧ (p.cnt : Int) ≤ 16
  · exact ⟨by omega, hs.1, h.2⟩
  · have := h2.2 hs
    omega
theorem c6 (p : Pr) (hs : Sm p) (hr : Rg p) : PC Tryd.prog 6 [aPr p] [] (fun r bx => r = A.str (if mayP p then ofL (txP p) else ⟨#[]⟩) ∧ bx = []) := by
  refine enter (rs := [.tmp 2]) mx Tryd.func6 Tryd.ntmps6 fun Q0 hQ0 => ?_
  refine sq fun _ _ => ?_
  refine rg (sg ?_)
  refine nx ?_
  refine sq fun _ _ => ?_
  refine sq fun _ _ => ?_
  refine rg (sg ?_)
  refine cl [] (sg ?_)
  refine (c14 _ (by first | assumption | omega | trivial | rfl)).mono ?_
  rintro r bx ⟨rfl, rfl⟩
  refine sg ?_
  refine nx ?_
  refine cb (fun h1 => ?_) (fun h1 => ?_)
  · refine sq fun _ _ => ?_
    refine rg (sg ?_)
    refine nx ?_
    refine rt (sg ?_)
    refine f1 (g := sg ?_)
    exact ax [] ⟨by rw [h1]; rfl, rfl⟩
  · rw [Bool.not_eq_false] at h1
    obtain ⟨hc, -, ho⟩ := sz_cnt h1
    refine sk (sg ?_)
    refine nx ?_
    refine sq fun _ _ => ?_
    refine rg (sg ?_)
    refine cl [] (sg ?_)
    refine (c15at p hs hr ho (by omega)).mono ?_
    rintro r bx ⟨rfl, rfl⟩
    refine sg ?_
    refine nx ?_
    refine rt ?_
    refine f1 (g := sg ?_)
    exact ax [] ⟨by rw [h1]; rfl, rfl⟩
def lv1 : Pr := .mk 2 ⟨#[97]⟩ 3 ⟨false, 5, ⟨#[]⟩⟩ 1 ⟨#[]⟩ []
def lv2 : Pr := .mk 4 ⟨#[99]⟩ 0 ⟨false, 0, ⟨#[]⟩⟩ 0 ⟨#[120, 37]⟩ []
def lv3 : Pr := .mk 5 ⟨#[]⟩ 0 ⟨false, 0, ⟨#[]⟩⟩ 0 ⟨#[]⟩ [lv2]
def lv4 : Pr := .mk 3 ⟨#[98]⟩ 0 ⟨false, 0, ⟨#[]⟩⟩ 0 ⟨#[]⟩ []
def lv5 : Pr := .mk 7 ⟨#[]⟩ 0 ⟨false, 0, ⟨#[]⟩⟩ 0 ⟨#[]⟩ [lv4, lv3]
def lvP : Pr := .mk 6 ⟨#[]⟩ 0 ⟨false, 0, ⟨#[]⟩⟩ 0 ⟨#[]⟩ [lv1, lv5]
theorem lv_sm : Sm lvP := smP_sm 5 lvP (by decide)
theorem rg_of (p : Pr) (h : allP (fun x => decide (-9223372036854775808 ≤ x.val.i) && decide (x.val.i ≤ 9223372036854775807)) p = true) : Rg p := by
  revert h
  revert p
  refine Pr.by_kids fun p ih h => ?_
  rw [allP_eq, Bool.and_eq_true, Bool.and_eq_true, decide_eq_true_eq, decide_eq_true_eq, List.all_eq_true] at h
  exact .mk p h.1.1 h.1.2 fun x hx => ih x hx (h.2 x hx)
theorem lv_rg : Rg lvP := rg_of _ (by decide)
theorem lv_may : mayP lvP = true := by decide
theorem itoa5 : Lib.itoa 5 = [53] := by
  rw [show (5 : Int) = ((5 : Nat) : Int) from rfl, Lib.itoa_nonneg, Lib.decDigits, dif_pos (by omega)]
  rfl
theorem lv_tx : ofL (txP lvP) = ⟨#[97, 32, 60, 32, 53, 32, 97, 110, 100, 32, 40, 98, 32, 105, 115, 32, 110, 117, 108, 108, 32, 111, 114, 32, 110, 111, 116, 32, 99, 32, 108, 105, 107, 101, 32, 39, 120, 37, 39, 41]⟩ := by
  have h1 : txP lv1 = [97, 32, 60, 32, 53] := by
    simp [lv1, txP, valS, itoa5, signL, bsL]
  have h2 : txP lv2 = [99, 32, 108, 105, 107, 101, 32, 39, 120, 37, 39] := by decide
  have h3 : txP lv3 = [110, 111, 116, 32] ++ txP lv2 := by
    simp [lv3, txP, txPs, parL, lv2, Pr.op, Lib.join_one]
  have h4 : txP lv4 = [98, 32, 105, 115, 32, 110, 117, 108, 108] := by decide
  have h5 : txP lv5 = txP lv4 ++ ([32, 111, 114, 32] ++ txP lv3) := by
    rw [txP_eq, show lv5.kids = [lv4, lv3] from rfl]
    simp [lv5, Pr.op, Lib.join_cons, Lib.joinTail, parL, sepL]
  have h6 : txP lvP = txP lv1 ++ ([32, 97, 110, 100, 32] ++ (40 :: (txP lv5 ++ [41]))) := by
    rw [txP_eq, show lvP.kids = [lv1, lv5] from rfl]
    simp [lvP, Pr.op, Lib.join_cons, Lib.joinTail, parL, sepL, lv1, lv5]
  rw [h6, h1, h5, h4, h3, h2]
  rfl
/-- A contract out of a walk: nothing in; what is known of the package variables is handed on. -/
theorem PC_nil {P : Program} {f : FuncId} {fn : Func} {Q : A → List B → Prop} (hf : P.funcs[f]? = some fn) (h : ∀ w : World, Gl (fun k => k < w.heap.size) w → Calls P f #[] w fun e w' => ∃ v r, e = .returned v ∧ Below w.heap.size w w' ∧ Q r [] ∧ ∀ ok, RA (RL [] ok w') r v)
    (hn : (fn.name == "runtime.NumGoroutine") = false := by kernel_rfl) (hb : fn.body.isSome = true := by kernel_rfl) : PC P f [] [] Q := by
  refine ⟨⟨fn, hf, hn, hb⟩, fun ok μ0 w cargs _ hm hl ha => ?_⟩
  have hμ : μ0 = [] := List.eq_nil_of_length_eq_zero hm.len
  subst hμ
  have hc : cargs = #[] := Array.eq_empty_of_size_eq_zero hl.symm
  subst hc
  refine (h w (hm.gl.keep hm.small fun _ _ => rfl)).mono fun e w' ⟨v, r, h1, h2, h3, h4⟩ => ⟨v, r, [], [], ok, h1, h3, h4 ok, ?_, fun g hg => by simp at hg, Fw.of _ h2, fun _ h => h, fun _ h => .inl h⟩
  exact ⟨rfl, fun i j b b' g h => by simp at h, fun i b g h => by simp at h, fun g hg => by simp at hg, fun k hk => Nat.lt_of_lt_of_le (hm.small k hk) h2.size, fun i b g h => by simp at h, hm.gl.keep (fun _ h => h) (fun k hk => h2.block k (hm.small k hk))⟩
/-- A call out of a contract: a predicate in, a value out. -/
theorem call_pr {f : FuncId} {p : Pr} {v : Value} (hc : PC Tryd.prog f [aPr p] [] (fun r bx => r = ofV v ∧ bx = [])) (hv : ∀ (μ : List Nat) (ok : Nat → Prop) (w : World) (u : Value), RA (RL μ ok w) (ofV v) u → u = v) {W : World} (hg : Gl (fun k => k < W.heap.size) W) {u : Value} (hu : RC (fun k => k < W.heap.size) W (.sl p.kids.length 9 (elemsOf (p.kids.map cPr))) u) :
    Calls Tryd.prog f #[.agg (vPr p u).toArray] W fun e W' => e = .returned v ∧ Below W.heap.size W W' := by
  have hm : Mem [] (fun k => k < W.heap.size) [] W := ⟨rfl, fun i j b b' g h _ _ _ _ _ => by simp at h, fun i b g h => by simp at h, fun g h => (nomatch h), fun k h => h, fun i b g h => by simp at h, hg⟩
  refine (hc.2 _ [] W _ (fun b h => by cases h) hm rfl fun j a h => ?_).mono fun e w' ⟨cv, r, bx, ν, ok', he, ⟨hr, hb⟩, hR, hM, hν, hF, _⟩ => ?_
  · rcases j with _ | j
    · obtain rfl := Option.some.inj h
      exact ⟨_, rfl, RA_nine hu⟩
    · cases h
  · subst hr
    exact ⟨by rw [he]; exact congrArg Ending.returned (hv _ _ _ _ hR), hF.below⟩
theorem flat9 : ∀ (l : List (Pr × Value)) (i j : Nat) (h : i < l.length), j < 9 → (l.flatMap fun x => vPr x.1 x.2)[i * 9 + j]? = (vPr l[i].1 l[i].2)[j]?
  | x :: r, 0, j, _, hj => by
    rw [List.flatMap_cons, List.getElem?_append_left (by simp; omega)]
    simp
  | x :: r, i + 1, j, h, hj => by
    rw [List.flatMap_cons, List.getElem?_append_right (by simp; omega)]
    have h2 := flat9 r i j (by simpa using h) hj
    have e : (i + 1) * 9 + j - (vPr x.1 x.2).length = i * 9 + j := by simp; omega
    rw [e, h2]
    rfl
/-- A row of predicates that lies in a block. -/
theorem row_RC {W : World} {g cap : Nat} {t : TypeId} {ok : Nat → Prop} (l : List (Pr × Value)) (hok : ok g) (hc : W.heap[g]? = some (.cells (l.flatMap fun x => vPr x.1 x.2).toArray t (0, 0))) (hu : ∀ x ∈ l, RC ok W (.sl x.1.kids.length 9 (elemsOf (x.1.kids.map cPr))) x.2)
    (h1 : l.length ≤ cap) (h2 : l.length ≤ 1000) : RC ok W (.sl l.length 9 (elemsOf ((l.map (·.1)).map cPr))) (.slice (some ⟨g, 0, none⟩) l.length cap) := by
  refine ⟨_, _, rfl, ⟨h1, by omega⟩, fun i hi j hj => ?_⟩
  have hv : ∃ v, (vPr l[i].1 l[i].2)[j]? = some v := ⟨_, List.getElem?_eq_getElem (by simpa using hj)⟩
  obtain ⟨v, hv⟩ := hv
  refine ⟨_, v, rfl, hok, ?_, ?_⟩
  · rw [add_lit]
    unfold World.cell?
    simp only [hc]
    rw [Nat.zero_add]
    simp only [Option.isSome_none, Bool.false_eq_true, if_false, List.getElem?_toArray]
    rw [flat9 l i j hi hj, hv]
  · rw [el_at (f := cPr) (l := l.map (·.1)) (by simpa using hi), List.getElem_map]
    match j, hj with
    | 0, _ => rw [el_Pr0]; exact (Option.some.inj hv).symm
    | 1, _ => rw [el_Pr1]; exact (Option.some.inj hv).symm
    | 2, _ => rw [el_Pr2]; exact (Option.some.inj hv).symm
    | 3, _ => rw [el_Pr3]; exact (Option.some.inj hv).symm
    | 4, _ => rw [el_Pr4]; exact (Option.some.inj hv).symm
    | 5, _ => rw [el_Pr5]; exact (Option.some.inj hv).symm
    | 6, _ => rw [el_Pr6]; exact (Option.some.inj hv).symm
    | 7, _ => rw [el_Pr7]; exact (Option.some.inj hv).symm
    | 8, _ => rw [el_Pr8]; obtain rfl := Option.some.inj hv; exact hu _ (List.getElem_mem hi)
theorem nil_RC {W : World} {ok : Nat → Prop} (f : Nat → Nat → C) : RC ok W (.sl 0 9 f) (.slice none 0 0) := ⟨none, 0, rfl, ⟨Nat.le_refl _, Nat.zero_le _⟩, fun i hi => absurd hi (Nat.not_lt_zero _)⟩
section
variable (w : World) (A0 A1 A2 A3 A4 A5 : Obj)
def six : World := (((((w.alloc A0).alloc A1).alloc A2).alloc A3).alloc A4).alloc A5
theorem six_size : (six w A0 A1 A2 A3 A4 A5).heap.size = w.heap.size + 6 := by
  unfold six
  rw [heapS, heapS, heapS, heapS, heapS, heapS]
theorem six1 : (six w A0 A1 A2 A3 A4 A5).heap[w.heap.size + 1]? = some A1 := by
  show ((((((w.heap.push A0).push A1).push A2).push A3).push A4).push A5)[w.heap.size + 1]? = _
  simp only [Array.getElem?_push, Array.size_push]
  simp
theorem six3 : (six w A0 A1 A2 A3 A4 A5).heap[w.heap.size + 1 + 1 + 1]? = some A3 := by
  show ((((((w.heap.push A0).push A1).push A2).push A3).push A4).push A5)[w.heap.size + 1 + 1 + 1]? = _
  simp only [Array.getElem?_push, Array.size_push]
  simp
theorem six4 : (six w A0 A1 A2 A3 A4 A5).heap[w.heap.size + 1 + 1 + 1 + 1]? = some A4 := by
  show ((((((w.heap.push A0).push A1).push A2).push A3).push A4).push A5)[w.heap.size + 1 + 1 + 1 + 1]? = _
  simp only [Array.getElem?_push, Array.size_push]
  simp
theorem six_below : Below w.heap.size w (six w A0 A1 A2 A3 A4 A5) := by
  unfold six
  have h3 := below3 w A0 A1 A2
  have e3 : (((w.alloc A0).alloc A1).alloc A2).heap.size = w.heap.size + 3 := by rw [heapS, heapS, heapS]
  exact ((h3.alloc (by omega) A3).alloc (by rw [heapS]; omega) A4).alloc (by rw [heapS, heapS]; omega) A5
end
theorem call_live (w : World) (hg : Gl (fun k => k < w.heap.size) w) (A0 A2 A5 : Obj) (t1 t3 t4 : TypeId) :
    Calls Tryd.prog 6 #[.agg #[.int .i64 6, .string ⟨#[]⟩, .int .i64 0, .bool false, .int .i64 0, .string ⟨#[]⟩, .int .i64 0, .string ⟨#[]⟩, .slice (some ⟨w.heap.size + 1 + 1 + 1 + 1, 0, none⟩) 2 2]]
      (six w A0 (.cells (vPr lv2 (.slice none 0 0)).toArray t1 (0, 0)) A2 (.cells (vPr lv4 (.slice none 0 0) ++ vPr lv3 (.slice (some ⟨w.heap.size + 1, 0, none⟩) 1 1)).toArray t3 (0, 0)) (.cells (vPr lv1 (.slice none 0 0) ++ vPr lv5 (.slice (some ⟨w.heap.size + 1 + 1 + 1, 0, none⟩) 2 2)).toArray t4 (0, 0)) A5)
      fun e w' => e = .returned (.string ⟨#[97, 32, 60, 32, 53, 32, 97, 110, 100, 32, 40, 98, 32, 105, 115, 32, 110, 117, 108, 108, 32, 111, 114, 32, 110, 111, 116, 32, 99, 32, 108, 105, 107, 101, 32, 39, 120, 37, 39, 41]⟩) ∧ Below w.heap.size w w' := by
  generalize hA1 : Obj.cells (vPr lv2 (.slice none 0 0)).toArray t1 (0, 0) = A1
  generalize hA3 : Obj.cells (vPr lv4 (.slice none 0 0) ++ vPr lv3 (.slice (some ⟨w.heap.size + 1, 0, none⟩) 1 1)).toArray t3 (0, 0) = A3
  generalize hA4 : Obj.cells (vPr lv1 (.slice none 0 0) ++ vPr lv5 (.slice (some ⟨w.heap.size + 1 + 1 + 1, 0, none⟩) 2 2)).toArray t4 (0, 0) = A4
  have hb := six_below w A0 A1 A2 A3 A4 A5
  have hs := six_size w A0 A1 A2 A3 A4 A5
  have e1 := six1 w A0 A1 A2 A3 A4 A5
  have e3 := six3 w A0 A1 A2 A3 A4 A5
  have e4 := six4 w A0 A1 A2 A3 A4 A5
  generalize six w A0 A1 A2 A3 A4 A5 = W at hb hs e1 e3 e4 ⊢
  subst hA1 hA3 hA4
  have r1 : RC (fun k => k < W.heap.size) W (.sl 1 9 (elemsOf ([lv2].map cPr))) (.slice (some ⟨w.heap.size + 1, 0, none⟩) 1 1) :=
    row_RC (cap := 1) [(lv2, .slice none 0 0)] (by show _ < _; omega) e1 (fun x hx => by rcases List.mem_singleton.1 hx with rfl; exact nil_RC _) (Nat.le_refl _) (by simp)
  have r3 : RC (fun k => k < W.heap.size) W (.sl 2 9 (elemsOf ([lv4, lv3].map cPr))) (.slice (some ⟨w.heap.size + 1 + 1 + 1, 0, none⟩) 2 2) :=
    row_RC (cap := 2) [(lv4, .slice none 0 0), (lv3, .slice (some ⟨w.heap.size + 1, 0, none⟩) 1 1)] (by show _ < _; omega) e3 (fun x hx => by
      rcases List.mem_cons.1 hx with rfl | hx
      · exact nil_RC _
      · rcases List.mem_singleton.1 hx with rfl
        exact r1) (Nat.le_refl _) (by simp)
  have r4 : RC (fun k => k < W.heap.size) W (.sl 2 9 (elemsOf ([lv1, lv5].map cPr))) (.slice (some ⟨w.heap.size + 1 + 1 + 1 + 1, 0, none⟩) 2 2) :=
    row_RC (cap := 2) [(lv1, .slice none 0 0), (lv5, .slice (some ⟨w.heap.size + 1 + 1 + 1, 0, none⟩) 2 2)] (by show _ < _; omega) e4 (fun x hx => by
      rcases List.mem_cons.1 hx with rfl | hx
      · exact nil_RC _
      · rcases List.mem_singleton.1 hx with rfl
        exact r3) (Nat.le_refl _) (by simp)
  have hgW : Gl (fun k => k < W.heap.size) W := hg.keep (fun k hk => by show _ < _; have : k < w.heap.size := hk; omega) (fun k hk => hb.block k hk)
  have hc := c6 lvP lv_sm lv_rg
  rw [lv_may, if_pos rfl, lv_tx] at hc
  refine (call_pr (v := .string _) hc (fun μ ok w u h => h) hgW r4).mono fun e w' ⟨h1, h2⟩ => ⟨h1, ?_⟩
  exact hb.trans (h2.mono (by omega))
theorem wlive (w : World) (hg : Gl (fun k => k < w.heap.size) w) : Calls Tryd.prog 5 #[] w fun e w' => e = .returned (.bool true) ∧ Below w.heap.size w w' := by
  go_enter Tryd.func5, Tryd.ntmps5
  go_wp2_with (go_at_call 6; refine (call_live w hg _ _ _ _ _ _).mono ?_; rintro e w' ⟨rfl, hb⟩)
  go_ret
  exact ⟨rfl, hb⟩
theorem c5 : PC Tryd.prog 5 [] [] (fun r bx => r = .bool true ∧ bx = []) :=
  PC_nil Tryd.func5 fun w hg => (wlive w hg).mono fun e w' ⟨h, hb⟩ => ⟨_, .bool true, h, hb, ⟨rfl, rfl⟩, fun ok => rfl⟩

end Go.Proofs.YtcbfkokdkadalaaDoor.V
