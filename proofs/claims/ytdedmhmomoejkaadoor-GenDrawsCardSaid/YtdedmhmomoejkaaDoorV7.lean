import Derived.Test.YtdedmhmomoejkaaDoorV6
namespace Go.Proofs.YtdedmhmomoejkaaDoor.V
open Go Go.RowKit Go.Proofs.YtdedmhmomoejkaaDoorW.PrintLast
set_option linter.unusedVariables false
set_option linter.unusedSimpArgs false
section
variable {μ : List Nat} {ok : Nat → Prop} {bx : List B} {w w' : World}
theorem getElem?_append_some {α : Type} {l r : List α} {i : Nat} {x : α} (h : l[i]? = some x) : (l ++ r)[i]? = some x := by
  have hlt : i < l.length := (List.getElem?_eq_some_iff.1 h).1
  rw [List.getElem?_append_left hlt]; exact h
theorem RL_weak (ν : List Nat) {l : L} {u : Value} (h : RL μ ok w l u) : RL (μ ++ ν) ok w l u :=
  RL.congr (fun i g hg => getElem?_append_some hg) (fun _ h => h) (fun _ _ => rfl) (fun g _ cs t h => ⟨cs, h, rfl⟩) l u h
theorem RL_below (hm : Mem μ ok bx w) (hb : Below w.heap.size w w') {l : L} {u : Value} (h : RL μ ok w l u) : RL μ ok w' l u :=
  RL.congr (fun i g hg => hg) (fun _ h => h) (fun k hk => hb.block k (hm.small k hk)) (fun g hg cs t h => ⟨cs, by rw [hb.block g (hm.there g hg)]; exact h, rfl⟩) l u h
/-- What a step of the memory may do with what is told of it. -/
theorem BoxR_congr {μ' : List Nat} {ok' : Nat → Prop} {g : Nat} (hRL : ∀ l u, RL μ ok w l u → RL μ' ok' w' l u) (hg : w'.heap[g]? = w.heap[g]?) (b : B) (h : BoxR μ ok w g b) : BoxR μ' ok' w' g b := by
  cases b with
  | var ls t =>
    obtain ⟨cs, h1, h2⟩ := h
    exact ⟨cs, by rw [hg]; exact h1, h2.mono hRL⟩
  | arr es sz t =>
    obtain ⟨cs, cap, h1, h2, h3, h4, h5⟩ := h
    refine ⟨cs, cap, by rw [hg]; exact h1, h2, h3, h4, fun i e he => ⟨(h5 i e he).1, fun j x hx => ?_⟩⟩
    obtain ⟨v, h6, h7⟩ := (h5 i e he).2 j x hx
    exact ⟨v, h6, hRL _ _ h7⟩
  | iter s p => show w'.heap[g]? = _; rw [hg]; exact h
  | hid => trivial
theorem RC_below (hm : Mem μ ok bx w) (hb : Below w.heap.size w w') {x : C} {u : Value} (h : RC ok w x u) : RC ok w' x u :=
  RC.congr (fun _ h => h) (fun k hk => hb.block k (hm.small k hk)) x u h
theorem Mem_below (hm : Mem μ ok bx w) (hb : Below w.heap.size w w') : Mem μ ok bx w' where
  len := hm.len
  nd := hm.nd
  live := hm.live
  there := fun g hg => Nat.lt_of_lt_of_le (hm.there g hg) hb.size
  small := fun k hk => Nat.lt_of_lt_of_le (hm.small k hk) hb.size
  box := fun i b g h1 h2 => BoxR_congr (fun l u h => RL_below hm hb h) (hb.block g (hm.there g (List.mem_of_getElem? h2))) b (hm.box i b g h1 h2)
theorem at_snoc {α : Type} {l : List α} {x y : α} {i : Nat} (h : (l ++ [x])[i]? = some y) : l[i]? = some y ∨ (i = l.length ∧ y = x) := by
  by_cases hi : i < l.length
  · rw [List.getElem?_append_left hi] at h; exact .inl h
  · rw [List.getElem?_append_right (by omega)] at h
    cases hq : i - l.length with
    | zero => rw [hq] at h; exact .inr ⟨by omega, by simpa using h.symm⟩
    | succ n => rw [hq] at h; simp at h
theorem at_in {α : Type} {l : List α} {i : Nat} {x : α} (h : l[i]? = some x) : i < l.length := (List.getElem?_eq_some_iff.1 h).1
/-- One block more: no box that is not hidden stands for it yet. -/
theorem Mem_add (hm : Mem μ ok bx w) {g : Nat} {b : B} (hg : ∀ (i : Nat) b', bx[i]? = some b' → b' ≠ .hid → μ[i]? ≠ some g) (hk : ¬ ok g) (hs : g < w.heap.size) (hb : BoxR (μ ++ [g]) ok w g b) : Mem (μ ++ [g]) ok (bx ++ [b]) w where
  len := by simp [hm.len]
  nd := by
    intro i j b1 b2 g' h1 h2 hn1 hn2 h3 h4
    have hl := hm.len
    rcases at_snoc h1 with h1 | ⟨h1, _⟩ <;> rcases at_snoc h2 with h2 | ⟨h2, _⟩ <;> rcases at_snoc h3 with h3 | ⟨h3, e3⟩ <;> rcases at_snoc h4 with h4 | ⟨h4, e4⟩
    all_goals first
      | exact hm.nd i j b1 b2 g' h1 h2 hn1 hn2 h3 h4
      | (rw [e4] at h3; exact absurd h3 (hg i b1 h1 hn1))
      | (rw [e3] at h4; exact absurd h4 (hg j b2 h2 hn2))
      | (have := at_in h1; omega)
      | (have := at_in h2; omega)
      | (have := at_in h3; omega)
      | (have := at_in h4; omega)
      | omega
  live := by
    intro i b' g' h1 h2 hne
    have hl := hm.len
    rcases at_snoc h1 with h1 | ⟨h1, _⟩ <;> rcases at_snoc h2 with h2 | ⟨h2, e2⟩
    · exact hm.live i b' g' h1 h2 hne
    · have := at_in h1; omega
    · have := at_in h2; omega
    · subst e2; exact hk
  there := by
    intro g' hg'
    rcases List.mem_append.1 hg' with h | h
    · exact hm.there g' h
    · rw [List.mem_singleton] at h; subst h; exact hs
  small := hm.small
  box := by
    intro i b' g' h1 h2
    have hl := hm.len
    rcases at_snoc h1 with h1 | ⟨h1, e1⟩ <;> rcases at_snoc h2 with h2 | ⟨h2, e2⟩
    · exact BoxR_congr (fun l u h => RL_weak _ h) rfl b' (hm.box i b' g' h1 h2)
    · have := at_in h1; omega
    · have := at_in h2; omega
    · subst e1 e2; exact hb
/-- A box told anew, its block turned, or not. -/
theorem Mem_set (hm : Mem μ ok bx w) {i : Nat} {b0 b : B} {g : Nat} (h0 : bx[i]? = some b0) (hn : b0 ≠ .hid) (hg : μ[i]? = some g)
    (hkeep : ∀ cs t, w.heap[g]? = some (.cells cs t (0, 0)) → ∃ cs', w'.heap[g]? = some (.cells cs' t (0, 0)) ∧ cs'.size = cs.size) (hw : ∀ k, k ≠ g → w'.heap[k]? = w.heap[k]?) (hsize : w'.heap.size = w.heap.size)
    (hb : (∀ l u, RL μ ok w l u → RL μ ok w' l u) → BoxR μ ok w' g b) : Mem μ ok (bx.set i b) w' ∧ (∀ l u, RL μ ok w l u → RL μ ok w' l u) := by
  have hgk : ∀ k, ok k → k ≠ g := fun k hk e => by subst e; exact hm.live i b0 k h0 hg hn hk
  have hRL : ∀ l u, RL μ ok w l u → RL μ ok w' l u := RL.congr (fun i g hg => hg) (fun _ h => h) (fun k hk => hw k (hgk k hk)) (fun g' hg' cs2 t2 h2 => by
    by_cases e : g' = g
    · subst e
      exact hkeep _ _ h2
    · exact ⟨cs2, by rw [hw g' e]; exact h2, rfl⟩)
  have hset : ∀ (j : Nat) b', (bx.set i b)[j]? = some b' → b' ≠ .hid → ∃ b'', bx[j]? = some b'' ∧ b'' ≠ .hid := by
    intro j b' h1 hne
    rw [List.getElem?_set] at h1
    split at h1
    · rename_i e; subst e; exact ⟨b0, h0, hn⟩
    · exact ⟨b', h1, hne⟩
  refine ⟨⟨by simp [hm.len], ?_, ?_, fun g' hg' => by rw [hsize]; exact hm.there g' hg', fun k hk => by rw [hsize]; exact hm.small k hk, ?_⟩, hRL⟩
  · intro p q b1 b2 g' h1 h2 hn1 hn2 h3 h4
    obtain ⟨c1, h5, h6⟩ := hset p b1 h1 hn1
    obtain ⟨c2, h7, h8⟩ := hset q b2 h2 hn2
    exact hm.nd p q c1 c2 g' h5 h7 h6 h8 h3 h4
  · intro j b' g' h1 h2 hne
    obtain ⟨c1, h5, h6⟩ := hset j b' h1 hne
    exact hm.live j c1 g' h5 h2 h6
  · intro j b' g' h1 h2
    rw [List.getElem?_set] at h1
    split at h1
    · rename_i e
      subst e
      rw [hg] at h2
      obtain rfl : g = g' := by simpa using h2
      split at h1
      · obtain rfl : b = b' := by simpa using h1
        exact hb hRL
      · cases h1
    · rename_i hne
      by_cases hh : b' = .hid
      · subst hh; trivial
      have hgg : g' ≠ g := by
        intro e
        subst e
        exact hne (hm.nd i j b0 b' g' h0 h1 hn hh hg h2)
      exact BoxR_congr hRL (hw g' hgg) b' (hm.box j b' g' h1 h2)
/-- A box that is hidden. -/
theorem Mem_hide (hm : Mem μ ok bx w) (i : Nat) : Mem μ ok (bx.set i .hid) w := by
  have hset : ∀ (j : Nat) b', (bx.set i .hid)[j]? = some b' → b' ≠ .hid → bx[j]? = some b' := by
    intro j b' h1 hne
    rw [List.getElem?_set] at h1
    split at h1
    · split at h1
      · obtain rfl : B.hid = b' := by simpa using h1
        exact absurd rfl hne
      · cases h1
    · exact h1
  refine ⟨by simp [hm.len], fun p q b1 b2 g' h1 h2 hn1 hn2 h3 h4 => hm.nd p q b1 b2 g' (hset _ _ h1 hn1) (hset _ _ h2 hn2) hn1 hn2 h3 h4, fun j b' g' h1 h2 hne => hm.live j b' g' (hset _ _ h1 hne) h2 hne, hm.there, hm.small, fun j b' g' h1 h2 => ?_⟩
  by_cases hh : b' = .hid
  · subst hh; trivial
  · exact hm.box j b' g' (hset _ _ h1 hh) h2
/-- The whole relation: what is told of the call's memory, and that it turns none but its own, and what was lent to it (μ0). -/
structure Out (ok0 : Nat → Prop) (μ0 : List Nat) (w0 : World) (ν : List Nat) (ok : Nat → Prop) (w : World) : Prop where
  fw : Fw μ0 w0 w
  ok1 : ∀ k, ok0 k → ok k
  ok2 : ∀ k, ok k → ok0 k ∨ w0.heap.size ≤ k ∨ k ∈ μ0
  new : ∀ g, g ∈ ν → w0.heap.size ≤ g ∨ g ∈ μ0
def RelX (ok0 : Nat → Prop) (μ0 : List Nat) (w0 : World) (ν : List Nat) (σ : St) (a : Act) (w : World) : Prop :=
  ∃ ok, σ.m = μ0.length ∧ Rl (μ0 ++ ν) ok σ a w ∧ Out ok0 μ0 w0 ν ok w
def Rel (ok0 : Nat → Prop) (μ0 : List Nat) (w0 : World) (σ : St) (a : Act) (w : World) : Prop := ∃ ν, RelX ok0 μ0 w0 ν σ a w
def RelA (ok0 : Nat → Prop) (μ0 : List Nat) (w0 : World) (ν : List Nat) (σ : St) (a : Act) (w : World) (r : A) (v : Value) : Prop :=
  ∃ ν2 ok, σ.m = μ0.length ∧ Rl (μ0 ++ (ν ++ ν2)) ok σ a w ∧ Out ok0 μ0 w0 (ν ++ ν2) ok w ∧ RA (RL (μ0 ++ (ν ++ ν2)) ok w) r v
theorem Out.step {ok0 : Nat → Prop} {μ0 ν : List Nat} {w0 w w' : World} {ok : Nat → Prop} (h : Out ok0 μ0 w0 ν ok w) (k : Fw (μ0 ++ ν) w w') : Out ok0 μ0 w0 ν ok w' :=
  ⟨h.fw.step k (fun g hg => by
    rcases List.mem_append.1 hg with hg | hg
    · exact .inl hg
    · exact (h.new g hg).symm), h.ok1, h.ok2, h.new⟩
theorem Out.below {ok0 : Nat → Prop} {μ0 ν : List Nat} {w0 w w' : World} {ok : Nat → Prop} (h : Out ok0 μ0 w0 ν ok w) (k : Below w.heap.size w w') : Out ok0 μ0 w0 ν ok w' := h.step (Fw.of _ k)
theorem Out.add {ok0 : Nat → Prop} {μ0 ν : List Nat} {w0 w : World} {ok : Nat → Prop} (h : Out ok0 μ0 w0 ν ok w) {g : Nat} (hg : w0.heap.size ≤ g ∨ g ∈ μ0) : Out ok0 μ0 w0 (ν ++ [g]) ok w :=
  ⟨h.fw, h.ok1, h.ok2, fun x hx => by
    rcases List.mem_append.1 hx with hx | hx
    · exact h.new x hx
    · rw [List.mem_singleton] at hx; subst hx; exact hg⟩
theorem lk_put {tm : List (Nat × A)} {d t : Nat} {a : A} : lk ((d, a) :: tm) t = if d = t then a else lk tm t := rfl
theorem Rl.put {σ : St} {a : Act} (h : Rl μ ok σ a w) (d : Option Nat) {r : A} {v : Value} (hr : RA (RL μ ok w) r v) : Rl μ ok (σ.putO d r) (a.put d v) w := by
  cases d with
  | none => exact h
  | some d =>
    by_cases hlt : d < σ.nt
    · have e : σ.putO (some d) r = { σ with tm := (d, r) :: σ.tm } := if_pos hlt
      rw [e]
      refine ⟨h.mem, by simp [Act.put, h.nt], fun t => ?_, h.df⟩
      simp only [lk_put, Act.put, Array.getD_eq_getD_getElem?]
      by_cases e : d = t
      · subst e
        rw [if_pos rfl, Array.getElem?_setIfInBounds_self_of_lt (by rw [h.nt]; exact hlt)]
        exact hr
      · rw [if_neg e, Array.getElem?_setIfInBounds_ne e]
        have := h.tm t
        rwa [Array.getD_eq_getD_getElem?] at this
    · have e : σ.putO (some d) r = σ := if_neg hlt
      rw [e]
      have : a.tmps.setIfInBounds d v = a.tmps := by
        unfold Array.setIfInBounds
        rw [dif_neg (by rw [h.nt]; exact hlt)]
      refine ⟨h.mem, by simp [Act.put, h.nt], fun t => ?_, h.df⟩
      simp only [Act.put, this]
      exact h.tm t
theorem putO_m (σ : St) (d : Option Nat) (r : A) : (σ.putO d r).m = σ.m := by
  cases d with
  | none => rfl
  | some d => show (if _ then _ else _ : St).m = _; split <;> rfl
theorem RelA.put {ok0 : Nat → Prop} {μ0 ν : List Nat} {w0 : World} {σ : St} {a : Act} {r : A} {v : Value} (h : RelA ok0 μ0 w0 ν σ a w r v) (d : Option Nat) : ∃ ν2, RelX ok0 μ0 w0 (ν ++ ν2) (σ.putO d r) (a.put d v) w := by
  obtain ⟨ν2, ok, h0, h1, h3, h2⟩ := h
  exact ⟨ν2, ok, by rw [putO_m]; exact h0, h1.put d h2, h3⟩
end
end Go.Proofs.YtdedmhmomoejkaaDoor.V
