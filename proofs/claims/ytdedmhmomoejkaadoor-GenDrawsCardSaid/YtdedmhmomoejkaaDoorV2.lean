import Derived.Test.YtdedmhmomoejkaaDoorV1
namespace Go.Proofs.YtdedmhmomoejkaaDoor.V
open Go Go.RowKit Go.Proofs.YtdedmhmomoejkaaDoorW.PrintLast
set_option linter.unusedVariables false
set_option linter.unusedSimpArgs false
/-! Second part: what the words mean in memory. -/
/-- A cell's content. ok: the blocks that are never written again. -/
def RC (ok : Nat → Prop) (w : World) : C → Value → Prop
  | .v x, u => u = x
  | .sl n sz f, u => ∃ (a : Option Addr) (cap : Nat), u = .slice a n cap ∧ (n ≤ cap ∧ n ≤ 9223372036854775807) ∧
      ∀ i, i < n → ∀ j, j < sz → ∃ b v, a = some b ∧ ok b.block ∧ w.cell? (b.add (i * sz + j)) = some v ∧ RC ok w (f i j) v
  | .any, _ => True
def RL (μ : List Nat) (ok : Nat → Prop) (w : World) : L → Value → Prop
  | .c x, u => RC ok w x u
  | .ptr id off, u => ∃ g, μ[id]? = some g ∧ u = .pointer (some ⟨g, off, none⟩)
  | .ep id sz i off, u => ∃ g, μ[id]? = some g ∧ u = .pointer (some ⟨g, i * sz + off, none⟩)
  | .rp n f, u => ∃ b, u = .pointer (some b) ∧ ok b.block ∧ ∀ j, j < n → ∃ v, w.cell? (b.add j) = some v ∧ RC ok w (f j) v
  | .own id sz o n, u => ∃ g cap cs t, μ[id]? = some g ∧ u = .slice (some ⟨g, o * sz, none⟩) n cap ∧ n ≤ cap ∧ w.heap[g]? = some (.cells cs t (0, 0)) ∧ cs.size = (o + cap) * sz
  | .fn f caps, u => ∃ gs : List Nat, gs.length = caps.length ∧ (∀ (j : Nat) id, caps[j]? = some id → ∃ g, gs[j]? = some g ∧ μ[id]? = some g) ∧ u = .func (.func f) #[] (gs.map fun g => Value.pointer (some ⟨g, 0, none⟩)).toArray
  | .junk, _ => True
def RLs (R : L → Value → Prop) (ls : List L) (cs : List Value) : Prop := ls.length = cs.length ∧ ∀ (j : Nat) l, ls[j]? = some l → ∃ v, cs[j]? = some v ∧ R l v
def RV (R : L → Value → Prop) (x : List L × Bool) (u : Value) : Prop := (x.2 = true → ∃ cs : Array Value, u = .agg cs ∧ RLs R x.1 cs.toList) ∧ (x.2 = false → ∃ l, x.1 = [l] ∧ R l u)
def RA (R : L → Value → Prop) : A → Value → Prop
  | .one l, u => R l u
  | .agg ls, u => ∃ cs : Array Value, u = .agg cs ∧ RLs R ls cs.toList
  | .tup xs, u => ∃ vs : Array Value, u = .tuple vs ∧ xs.length = vs.size ∧ ∀ (j : Nat) x, xs[j]? = some x → ∃ v, vs[j]? = some v ∧ RV R x v
  | .opt g a, u => (g = true → RA R a u) ∧ (g = false → u = undef)
def BoxR (μ : List Nat) (ok : Nat → Prop) (w : World) (g : Nat) : B → Prop
  | .var ls t => ∃ cs, w.heap[g]? = some (.cells cs t (0, 0)) ∧ RLs (RL μ ok w) ls cs.toList
  | .hid => True
  | .arr es sz t => ∃ cs cap, w.heap[g]? = some (.cells cs t (0, 0)) ∧ cs.size = cap * sz ∧ es.length ≤ cap ∧ cap ≤ maxLen ∧
      ∀ (i : Nat) e, es[i]? = some e → e.length = sz ∧ ∀ (j : Nat) x, e[j]? = some x → ∃ v, cs[i * sz + j]? = some v ∧ RL μ ok w x v
  | .iter s p => w.heap[g]? = some (.stringIter s p)
/-- The call's own memory, and what is never written again. -/
structure Mem (μ : List Nat) (ok : Nat → Prop) (bx : List B) (w : World) : Prop where
  len : μ.length = bx.length
  nd : ∀ (i j : Nat) b b' g, bx[i]? = some b → bx[j]? = some b' → b ≠ .hid → b' ≠ .hid → μ[i]? = some g → μ[j]? = some g → i = j
  live : ∀ (i : Nat) b g, bx[i]? = some b → μ[i]? = some g → b ≠ .hid → ¬ ok g
  there : ∀ g, g ∈ μ → g < w.heap.size
  small : ∀ k, ok k → k < w.heap.size
  box : ∀ (i : Nat) b g, bx[i]? = some b → μ[i]? = some g → BoxR μ ok w g b
structure Rl (μ : List Nat) (ok : Nat → Prop) (σ : St) (a : Act) (w : World) : Prop where
  mem : Mem μ ok σ.bx w
  nt : a.tmps.size = σ.nt
  tm : ∀ t, RA (RL μ ok w) (lk σ.tm t) (a.tmps.getD t undef)
  df : a.defers = []
/-- The types, as the program has them. -/
structure TyOK (P : Program) (t : TypeId) (i : TI) : Prop where
  kind : match i.k with
    | .prim d => P.underlying t = some d ∧ (∀ fs, d ≠ .struct fs) ∧ (∀ n e, d ≠ .array n e)
    | .struct fs e => ∃ fa : Array Field, P.underlying t = some (.struct fa) ∧ fa.toList.map (fun f => (f.offset, f.type)) = fs ∧
        (e = true → P.stoodInHeld t = false ∧ P.eqGuardType P.depth t = false ∧ (fa.toList.all fun f => f.name != "_") = true)
    | .slice e => P.underlying t = some (.slice e)
    | .array n e => P.underlying t = some (.array n e)
  zl : i.zero.length = i.size
  info : ∃ (j : TypeInfo) (z : Value), P.info? t = some j ∧ j.size = i.size ∧ j.bytes = i.bytes ∧ j.zero = some z ∧ z.cells.toList = i.zero
/-- What a call leaves as it was: all but the blocks that are lent, and these keep their form. -/
structure Fw (μ : List Nat) (w w' : World) : Prop where
  os : w'.os = w.os
  tape : w'.tape = w.tape
  output : w'.output = w.output
  size : w.heap.size ≤ w'.heap.size
  block : ∀ k, k < w.heap.size → k ∉ μ → w'.heap[k]? = w.heap[k]?
  kept : ∀ k, k < w.heap.size → ∀ cs t, w.heap[k]? = some (.cells cs t (0, 0)) → ∃ cs', w'.heap[k]? = some (.cells cs' t (0, 0)) ∧ cs'.size = cs.size
theorem Fw.refl (μ : List Nat) (w : World) : Fw μ w w := ⟨rfl, rfl, rfl, Nat.le_refl _, fun _ _ _ => rfl, fun _ _ cs _ h => ⟨cs, h, rfl⟩⟩
theorem Fw.below {w w' : World} (h : Fw [] w w') : Below w.heap.size w w' := ⟨h.os, h.tape, h.output, h.size, fun k hk => h.block k hk (by simp)⟩
theorem Fw.of {w w' : World} (μ : List Nat) (h : Below w.heap.size w w') : Fw μ w w' := ⟨h.os, h.tape, h.output, h.size, fun k hk _ => h.block k hk, fun k hk cs t e => ⟨cs, by rw [h.block k hk]; exact e, rfl⟩⟩
theorem Fw.trans {μ : List Nat} {a b c : World} (h : Fw μ a b) (k : Fw μ b c) : Fw μ a c :=
  ⟨k.os.trans h.os, k.tape.trans h.tape, k.output.trans h.output, Nat.le_trans h.size k.size, fun i hi hm => (k.block i (Nat.lt_of_lt_of_le hi h.size) hm).trans (h.block i hi hm), fun i hi cs t e => by
    obtain ⟨cs', h1, h2⟩ := h.kept i hi cs t e
    obtain ⟨cs2, h3, h4⟩ := k.kept i (Nat.lt_of_lt_of_le hi h.size) cs' t h1
    exact ⟨cs2, h3, h4.trans h2⟩⟩
/-- One stretch behind another, that may turn its own new blocks, too. -/
theorem Fw.step {μ ν : List Nat} {a b c : World} (h : Fw μ a b) (k : Fw ν b c) (hν : ∀ g, g ∈ ν → g ∈ μ ∨ a.heap.size ≤ g) : Fw μ a c :=
  ⟨k.os.trans h.os, k.tape.trans h.tape, k.output.trans h.output, Nat.le_trans h.size k.size, fun i hi hm => (k.block i (Nat.lt_of_lt_of_le hi h.size) (fun hn => by
      rcases hν i hn with h' | h'
      · exact hm h'
      · omega)).trans (h.block i hi hm), fun i hi cs t e => by
    obtain ⟨cs', h1, h2⟩ := h.kept i hi cs t e
    obtain ⟨cs2, h3, h4⟩ := k.kept i (Nat.lt_of_lt_of_le hi h.size) cs' t h1
    exact ⟨cs2, h3, h4.trans h2⟩⟩
theorem add_add (a : Addr) (m j : Nat) : (a.add m).add j = a.add (m + j) := by
  unfold Addr.add
  by_cases hm : m = 0
  · subst hm; simp
  · by_cases hj : j = 0
    · subst hj; simp
    · have h : m + j ≠ 0 := by omega
      simp [hm, hj, Nat.add_assoc]
theorem add_block (a : Addr) (m : Nat) : (a.add m).block = a.block := by
  unfold Addr.add
  split <;> rfl
theorem add_zero (a : Addr) : a.add 0 = a := by simp [Addr.add]
theorem add_lit (g o m : Nat) : (⟨g, o, none⟩ : Addr).add m = ⟨g, o + m, none⟩ := by
  unfold Addr.add
  by_cases hm : m = 0
  · subst hm; simp
  · simp [hm]
theorem cell_congr {w w' : World} {a : Addr} (h : w'.heap[a.block]? = w.heap[a.block]?) : w'.cell? a = w.cell? a := by
  unfold World.cell?
  rw [h]
theorem RC.congr {ok ok' : Nat → Prop} {w w' : World} (hk : ∀ k, ok k → ok' k) (hw : ∀ k, ok k → w'.heap[k]? = w.heap[k]?) : ∀ (x : C) (u : Value), RC ok w x u → RC ok' w' x u
  | .v _, _, h => h
  | .sl n sz f, u, h => by
    obtain ⟨a, cap, hu, hn, hc⟩ := h
    refine ⟨a, cap, hu, hn, fun i hi j hj => ?_⟩
    obtain ⟨b, v, hb, ho, hv, hr⟩ := hc i hi j hj
    refine ⟨b, v, hb, hk _ ho, ?_, RC.congr hk hw _ _ hr⟩
    rw [cell_congr (w := w) (w' := w') (a := b.add (i * sz + j)) (by rw [add_block]; exact hw _ ho)]
    exact hv
  | .any, _, _ => trivial
theorem RL.congr {μ μ' : List Nat} {ok ok' : Nat → Prop} {w w' : World} (hm : ∀ (i : Nat) g, μ[i]? = some g → μ'[i]? = some g) (hk : ∀ k, ok k → ok' k) (hw : ∀ k, ok k → w'.heap[k]? = w.heap[k]?)
    (ho : ∀ g, g ∈ μ → ∀ cs t, w.heap[g]? = some (.cells cs t (0, 0)) → ∃ cs', w'.heap[g]? = some (.cells cs' t (0, 0)) ∧ cs'.size = cs.size) (l : L) (u : Value) (h : RL μ ok w l u) : RL μ' ok' w' l u := by
  cases l with
  | c x => exact RC.congr hk hw x u h
  | ptr id off => obtain ⟨g, h1, h2⟩ := h; exact ⟨g, hm _ _ h1, h2⟩
  | ep id sz i off => obtain ⟨g, h1, h2⟩ := h; exact ⟨g, hm _ _ h1, h2⟩
  | rp n f =>
    obtain ⟨b, h1, h2, h3⟩ := h
    refine ⟨b, h1, hk _ h2, fun j hj => ?_⟩
    obtain ⟨v, hv, hr⟩ := h3 j hj
    refine ⟨v, ?_, RC.congr hk hw _ _ hr⟩
    rw [cell_congr (w := w) (w' := w') (a := b.add j) (by rw [add_block]; exact hw _ h2)]
    exact hv
  | own id sz o n =>
    obtain ⟨g, cap, cs, t, h1, h2, h3, h4, h5⟩ := h
    obtain ⟨cs', h6, h7⟩ := ho g (List.mem_of_getElem? h1) cs t h4
    exact ⟨g, cap, cs', t, hm _ _ h1, h2, h3, h6, by rw [h7]; exact h5⟩
  | fn f caps =>
    obtain ⟨gs, h1, h2, h3⟩ := h
    refine ⟨gs, h1, fun j id hj => ?_, h3⟩
    obtain ⟨g, h4, h5⟩ := h2 j id hj
    exact ⟨g, h4, hm _ _ h5⟩
  | junk => trivial
theorem RLs.mono {R R' : L → Value → Prop} (h : ∀ l u, R l u → R' l u) {ls : List L} {cs : List Value} (hr : RLs R ls cs) : RLs R' ls cs :=
  ⟨hr.1, fun j l hj => let ⟨v, h1, h2⟩ := hr.2 j l hj; ⟨v, h1, h l v h2⟩⟩
theorem RV.mono {R R' : L → Value → Prop} (h : ∀ l u, R l u → R' l u) {x : List L × Bool} {u : Value} (hr : RV R x u) : RV R' x u :=
  ⟨fun hx => let ⟨cs, h1, h2⟩ := hr.1 hx; ⟨cs, h1, h2.mono h⟩, fun hx => let ⟨l, h1, h2⟩ := hr.2 hx; ⟨l, h1, h _ _ h2⟩⟩
theorem RA_mono {R R' : L → Value → Prop} (h : ∀ l u, R l u → R' l u) : ∀ (a : A) (u : Value), RA R a u → RA R' a u
  | .one l, u, hr => by rw [RA] at hr ⊢; exact h l u hr
  | .agg ls, u, hr => by
    rw [RA] at hr ⊢
    obtain ⟨cs, h1, h2⟩ := hr
    exact ⟨cs, h1, h2.mono h⟩
  | .tup xs, u, hr => by
    rw [RA] at hr ⊢
    obtain ⟨vs, h1, h2, h3⟩ := hr
    refine ⟨vs, h1, h2, fun j x hj => ?_⟩
    obtain ⟨v, h4, h5⟩ := h3 j x hj
    exact ⟨v, h4, h5.mono h⟩
  | .opt g a, u, hr => by
    rw [RA] at hr ⊢
    exact ⟨fun hg => RA_mono h a u (hr.1 hg), hr.2⟩
theorem RA_strip {R : L → Value → Prop} : ∀ (a : A) (u : Value), RA R a u → (strip a).1 = true → RA R (strip a).2 u
  | .one _, _, h, _ => h
  | .agg _, _, h, _ => h
  | .tup _, _, h, _ => h
  | .opt g a, u, h, hs => by
    have hs' : (g && (strip a).1) = true := hs
    rw [Bool.and_eq_true] at hs'
    exact RA_strip a u (h.1 hs'.1) hs'.2
theorem RLs.drop {R : L → Value → Prop} {ls : List L} {cs : List Value} (h : RLs R ls cs) (n : Nat) : RLs R (ls.drop n) (cs.drop n) := by
  refine ⟨by rw [List.length_drop, List.length_drop, h.1], fun j l hj => ?_⟩
  rw [List.getElem?_drop] at hj ⊢
  exact h.2 _ _ hj
theorem RLs.take {R : L → Value → Prop} {ls : List L} {cs : List Value} (h : RLs R ls cs) (n : Nat) : RLs R (ls.take n) (cs.take n) := by
  refine ⟨by rw [List.length_take, List.length_take, h.1], fun j l hj => ?_⟩
  rw [List.getElem?_take] at hj ⊢
  split at hj
  · rename_i hlt; rw [if_pos hlt]; exact h.2 _ _ hj
  · cases hj
theorem RLs.append {R : L → Value → Prop} {ls ls' : List L} {cs cs' : List Value} (h : RLs R ls cs) (h' : RLs R ls' cs') : RLs R (ls ++ ls') (cs ++ cs') := by
  refine ⟨by rw [List.length_append, List.length_append, h.1, h'.1], fun j l hj => ?_⟩
  rw [List.getElem?_append] at hj ⊢
  rw [← h.1]
  split at hj
  · rename_i hlt; rw [if_pos hlt]; exact h.2 _ _ hj
  · rename_i hlt; rw [if_neg hlt]; exact h'.2 _ _ hj
theorem RLs.nil {R : L → Value → Prop} : RLs R [] [] := ⟨rfl, fun j l h => by simp at h⟩
theorem RLs.one {R : L → Value → Prop} {l : L} {u : Value} (h : R l u) : RLs R [l] [u] := by
  refine ⟨rfl, fun j x hj => ?_⟩
  cases j with
  | zero => obtain rfl : l = x := by simpa using hj
            exact ⟨u, rfl, h⟩
  | succ j => simp at hj
theorem RLs.vals {μ : List Nat} {ok : Nat → Prop} {w : World} : ∀ (xs : List Value), RLs (RL μ ok w) (xs.map fun x => .c (.v x)) xs := by
  intro xs
  refine ⟨by simp, fun j l hj => ?_⟩
  rw [List.getElem?_map] at hj
  cases hx : xs[j]? with
  | none => rw [hx] at hj; simp at hj
  | some x => rw [hx] at hj; obtain rfl : L.c (.v x) = l := by simpa using hj
              exact ⟨x, rfl, rfl⟩
theorem RA.leaves {R : L → Value → Prop} {a : A} {u : Value} (h : RA R a u) (hl : (∃ ls, a = .agg ls) ∨ (∃ l, a = .one l ∧ ∀ cs, u ≠ .agg cs)) : RLs R (leaves a) u.cells.toList := by
  rcases hl with ⟨ls, rfl⟩ | ⟨l, rfl, hn⟩
  · obtain ⟨cs, rfl, h2⟩ := h
    exact h2
  · have hc : u.cells = #[u] := by
      cases u with
      | agg cs => exact absurd rfl (hn cs)
      | _ => rfl
    rw [hc]
    exact RLs.one h
theorem ev_ok {μ : List Nat} {ok : Nat → Prop} {σ : St} {a : Act} {w : World} (h : Rl μ ok σ a w) (x : Operand) : RA (RL μ ok w) (σ.ev x) (a.eval x) := by
  cases x with
  | tmp t => exact h.tm t
  | const v =>
    show RA _ (ofV v) v
    cases v with
    | agg cs => exact ⟨cs, rfl, RLs.vals _⟩
    | _ => exact rfl
  | func f => exact ⟨[], rfl, fun j id hj => by simp at hj, rfl⟩
  | global g => trivial
end Go.Proofs.YtdedmhmomoejkaaDoor.V
