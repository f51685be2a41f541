import Derived.Test.YtdedmhmomoejkaaDoorV11
namespace Go.Proofs.YtdedmhmomoejkaaDoor.V
open Go Go.RowKit Go.Proofs.YtdedmhmomoejkaaDoorW.PrintLast
set_option linter.unusedVariables false
set_option linter.unusedSimpArgs false
section
variable {P : Program} {T : Ty} {ok0 : Nat → Prop} {μ0 : List Nat} {w0 : World}
theorem pos_at : ∀ {ids : List Nat} {i k : Nat}, pos ids i = some k → ids[k]? = some i
  | [], _, _, h => by simp [pos] at h
  | a :: r, i, k, h => by
    unfold pos at h
    split at h
    · rename_i e; obtain rfl : 0 = k := by simpa using h
      simp [e]
    · cases hq : pos r i with
      | none => rw [hq] at h; simp at h
      | some q =>
        rw [hq] at h
        obtain rfl : q + 1 = k := by simpa using h
        simpa using pos_at hq
theorem pos_in : ∀ {ids : List Nat} {i : Nat}, i ∈ ids → ∃ k, pos ids i = some k
  | a :: r, i, h => by
    unfold pos
    split
    · exact ⟨0, rfl⟩
    · rename_i e
      obtain ⟨k, hk⟩ := pos_in (ids := r) (by rcases List.mem_cons.1 h with h | h; exact absurd h.symm e; exact h)
      exact ⟨k + 1, by rw [hk]; rfl⟩
theorem pos_none {ids : List Nat} {i : Nat} (h : pos ids i = none) : i ∉ ids := fun hi => by
  obtain ⟨k, hk⟩ := pos_in hi
  rw [hk] at h; cases h
theorem upto_at : ∀ (n k i : Nat), i < n → (upto k n)[i]? = some (k + i)
  | n + 1, k, 0, _ => by simp [upto]
  | n + 1, k, i + 1, h => by
    rw [upto, List.getElem?_cons_succ, upto_at n (k + 1) i (by omega)]
    congr 1; omega
theorem upto_len : ∀ (n k : Nat), (upto k n).length = n
  | 0, _ => rfl
  | n + 1, k => by rw [upto, List.length_cons, upto_len n]
theorem vw_at {es : List (List L)} {i j : Nat} {e : List L} {x : L} (h1 : es[i]? = some e) (h2 : e[j]? = some x) : vw es i j = vwC x := by
  unfold vw
  rw [List.getD_eq_getElem?_getD, List.getD_eq_getElem?_getD, h1, Option.getD_some, h2, Option.getD_some]
theorem mapM_to {α β : Type} {f : α → Option β} : ∀ {l : List α} {r : List β}, l.mapM f = some r → l.length = r.length ∧ ∀ (i : Nat) x, l[i]? = some x → ∃ y, r[i]? = some y ∧ f x = some y
  | [], r, h => by
    simp at h
    subst h
    exact ⟨rfl, fun i y hy => by simp at hy⟩
  | x :: l, r, h => by
    simp only [List.mapM_cons] at h
    cases hx : f x with
    | none => simp [hx] at h
    | some y =>
      cases hr : l.mapM f with
      | none => simp [hx, hr] at h
      | some r' =>
        simp [hx, hr] at h
        subst h
        obtain ⟨h1, h2⟩ := mapM_to hr
        refine ⟨by simp [h1], fun i z hz => ?_⟩
        cases i with
        | zero =>
          obtain rfl : x = z := by simpa using hz
          exact ⟨y, rfl, hx⟩
        | succ i => exact h2 i z hz
/-- What is told, by other numbers, in a later memory. -/
theorem RL_sub {μ μ' : List Nat} {ok ok' : Nat → Prop} {bx vbx : List B} {w w' : World} {ρ : Nat → Option Nat} (hm : Mem μ ok bx w) (hvb : ∀ (i : Nat) b, vbx[i]? = some b → bx[i]? = some b) (hk : ∀ k, ok k → ok' k) (hw : ∀ k, ok k → w'.heap[k]? = w.heap[k]?)
    (ho : ∀ g, g ∈ μ → ∀ cs t, w.heap[g]? = some (.cells cs t (0, 0)) → ∃ cs', w'.heap[g]? = some (.cells cs' t (0, 0)) ∧ cs'.size = cs.size)
    (hρ : ∀ id k g, ρ id = some k → μ[id]? = some g → μ'[k]? = some g) {l : L} {u : Value}
    (hv : ∀ id, id ∈ idsL l → ρ id = none → ∀ es sz t g, vbx[id]? = some (.arr es sz t) → μ[id]? = some g → ok' g ∧ w'.heap[g]? = w.heap[g]?)
    (h : RL μ ok w l u) : RL μ' ok' w' (subL vbx ρ l) u := by
  cases l with
  | c x => exact RC.congr hk hw x u h
  | ptr id off =>
    obtain ⟨g, h1, h2⟩ := h
    simp only [subL]
    cases hr : ρ id with
    | none => trivial
    | some k => exact ⟨g, hρ _ _ _ hr h1, h2⟩
  | ep id sz i off =>
    obtain ⟨g, h1, h2⟩ := h
    simp only [subL]
    cases hr : ρ id with
    | none => trivial
    | some k => exact ⟨g, hρ _ _ _ hr h1, h2⟩
  | rp n f =>
    obtain ⟨b, h1, h2, h3⟩ := h
    refine ⟨b, h1, hk _ h2, fun j hj => ?_⟩
    obtain ⟨v, hv, hr⟩ := h3 j hj
    refine ⟨v, ?_, RC.congr hk hw _ _ hr⟩
    rw [cell_congr (w := w) (w' := w') (a := b.add j) (by rw [add_block]; exact hw _ h2)]
    exact hv
  | own id sz o n =>
    simp only [subL]
    cases hr : ρ id with
    | some k =>
      obtain ⟨g, cap, cs, t, h1, h2, h3, h4, h5⟩ := h
      obtain ⟨cs', h6, h7⟩ := ho g (List.mem_of_getElem? h1) cs t h4
      exact ⟨g, cap, cs', t, hρ _ _ _ hr h1, h2, h3, h6, by rw [h7]; exact h5⟩
    | none =>
      simp only [viewL]
      split
      · rename_i es sz' t hb
        split
        · rename_i hc
          obtain ⟨rfl, hn⟩ := hc
          obtain ⟨g, cap, cs, t', h1, hu, hncap, hh, hcs⟩ := h
          obtain ⟨h6, h7⟩ := hv id (List.mem_singleton.2 rfl) hr es sz t g hb h1
          obtain ⟨cs2, cap2, hh2, _, hec, hcm, hel⟩ := hm.box id _ g (hvb _ _ hb) h1
          refine ⟨_, cap, hu, ⟨hncap, ?_⟩, fun i hi j hj => ?_⟩
          · have hml : maxLen ≤ 9223372036854775807 := by decide
            omega
          have he : es[o + i]? = some (es[o + i]'(by omega)) := List.getElem?_eq_getElem (by omega)
          obtain ⟨h8, h9⟩ := hel (o + i) _ he
          have hx : (es[o + i]'(by omega))[j]? = some ((es[o + i]'(by omega))[j]'(by omega)) := List.getElem?_eq_getElem (by omega)
          obtain ⟨v, hv, hr⟩ := h9 j _ hx
          refine ⟨⟨g, o * sz, none⟩, v, rfl, h6, ?_, ?_⟩
          · rw [add_lit, ← Nat.add_assoc, ← Nat.add_mul]
            simp only [World.cell?, h7, hh2]
            simpa using hv
          · show RC ok' w' (vw es (o + i) j) v
            rw [vw_at he hx]
            cases hxx : (es[o + i]'(by omega))[j]'(by omega) with
            | c y => rw [hxx] at hr; exact RC.congr hk hw y v hr
            | _ => trivial
        · trivial
      · trivial
  | fn f caps =>
    obtain ⟨gs, h1, h2, h3⟩ := h
    simp only [subL]
    cases hr : caps.mapM ρ with
    | none => trivial
    | some cs =>
      obtain ⟨h4, h5⟩ := mapM_to hr
      refine ⟨gs, by rw [h1, h4], fun j k hj => ?_, h3⟩
      have hjl : j < caps.length := by rw [h4]; exact at_in hj
      obtain ⟨y, h6, h7⟩ := h5 j _ (List.getElem?_eq_getElem hjl)
      rw [hj] at h6
      obtain rfl : k = y := by simpa using h6
      obtain ⟨g, h8, h9⟩ := h2 j _ (List.getElem?_eq_getElem hjl)
      exact ⟨g, h8, hρ _ _ _ h7 h9⟩
  | junk => trivial
theorem RLs_map {R R' : L → Value → Prop} {f : L → L} {ls : List L} {cs : List Value} (h : ∀ l, l ∈ ls → ∀ u, R l u → R' (f l) u) (hr : RLs R ls cs) : RLs R' (ls.map f) cs := by
  refine ⟨by rw [List.length_map]; exact hr.1, fun j l hl => ?_⟩
  rw [List.getElem?_map] at hl
  cases hq : ls[j]? with
  | none => rw [hq] at hl; simp at hl
  | some q =>
    rw [hq] at hl
    obtain rfl : f q = l := by simpa using hl
    obtain ⟨v, h1, h2⟩ := hr.2 j q hq
    exact ⟨v, h1, h q (List.mem_of_getElem? hq) v h2⟩
theorem RA_map {R R' : L → Value → Prop} {f : L → L} : ∀ (a : A) (u : Value), (∀ l, leafIn l a → ∀ u, R l u → R' (f l) u) → RA R a u → RA R' (mapA f a) u
  | .one l, u, h, hr => h l rfl u hr
  | .agg ls, u, h, hr => by
    obtain ⟨cs, h1, h2⟩ := hr
    exact ⟨cs, h1, RLs_map (fun l hl => h l hl) h2⟩
  | .tup xs, u, h, hr => by
    obtain ⟨vs, h1, h2, h3⟩ := hr
    refine ⟨vs, h1, by rw [List.length_map]; exact h2, fun j y hy => ?_⟩
    rw [List.getElem?_map] at hy
    cases hq : xs[j]? with
    | none => rw [hq] at hy; simp at hy
    | some q =>
      rw [hq] at hy
      obtain rfl : (q.1.map f, q.2) = y := by simpa using hy
      obtain ⟨v, h4, h5⟩ := h3 j q hq
      have hin : ∀ l, l ∈ q.1 → ∀ u, R l u → R' (f l) u := fun l hl => h l ⟨q, List.mem_of_getElem? hq, hl⟩
      refine ⟨v, h4, fun hx => ?_, fun hx => ?_⟩
      · obtain ⟨cs, h6, h7⟩ := h5.1 hx
        exact ⟨cs, h6, RLs_map hin h7⟩
      · obtain ⟨l, h6, h7⟩ := h5.2 hx
        exact ⟨f l, by simp [h6], hin l (by rw [h6]; exact List.mem_singleton.2 rfl) _ h7⟩
  | .opt g a, u, h, hr => ⟨fun hg => RA_map a u h (hr.1 hg), hr.2⟩
theorem ids_leaf {l : L} {id : Nat} (hid : id ∈ idsL l) : ∀ (a : A), leafIn l a → id ∈ idsA a
  | .one l', h => by have e : l = l' := h; subst e; exact hid
  | .agg ls, h => List.mem_flatMap.2 ⟨l, h, hid⟩
  | .tup xs, h => by
    obtain ⟨x, h1, h2⟩ := h
    exact List.mem_flatMap.2 ⟨x, h1, List.mem_flatMap.2 ⟨l, h2, hid⟩⟩
  | .opt g a, h => ids_leaf hid a h
theorem BoxR_map {μ μ' : List Nat} {ok ok' : Nat → Prop} {w w' : World} {g : Nat} {f : L → L} (b : B) (hRL : ∀ l u, RL μ ok w l u → RL μ' ok' w' (f l) u) (hg : b ≠ .hid → w'.heap[g]? = w.heap[g]?) (h : BoxR μ ok w g b) : BoxR μ' ok' w' g (mapB f b) := by
  cases b with
  | var ls t =>
    obtain ⟨cs, h1, h2⟩ := h
    exact ⟨cs, by rw [hg (by simp)]; exact h1, RLs_map (fun l _ u hl => hRL l u hl) h2⟩
  | arr es sz t =>
    obtain ⟨cs, cap, h1, h2, h3, h4, h5⟩ := h
    refine ⟨cs, cap, by rw [hg (by simp)]; exact h1, h2, by rw [List.length_map]; exact h3, h4, fun i e he => ?_⟩
    rw [List.getElem?_map] at he
    cases hq : es[i]? with
    | none => rw [hq] at he; simp at he
    | some q =>
      rw [hq] at he
      obtain rfl : q.map f = e := by simpa using he
      obtain ⟨h6, h7⟩ := h5 i q hq
      refine ⟨by rw [List.length_map]; exact h6, fun j x hx => ?_⟩
      rw [List.getElem?_map] at hx
      cases hr : q[j]? with
      | none => rw [hr] at hx; simp at hx
      | some y =>
        rw [hr] at hx
        obtain rfl : f y = x := by simpa using hx
        obtain ⟨v, h8, h9⟩ := h7 j y hr
        exact ⟨v, h8, hRL _ _ h9⟩
  | iter s p => show w'.heap[g]? = _; rw [hg (by simp)]; exact h
  | hid => trivial
theorem mapB_hid {f : L → L} {b : B} (h : mapB f b ≠ .hid) : b ≠ .hid := fun e => h (by rw [e]; rfl)
theorem getD_at {l : List Nat} {i g : Nat} (h : l[i]? = some g) : l.getD i 0 = g := by rw [List.getD_eq_getElem?_getD, h]; rfl
theorem nodup_inj {l : List Nat} (h : l.Nodup) {i j x : Nat} (hi : l[i]? = some x) (hj : l[j]? = some x) : i = j := by
  obtain ⟨h1, h2⟩ := List.getElem?_eq_some_iff.1 hi
  obtain ⟨h3, h4⟩ := List.getElem?_eq_some_iff.1 hj
  have hp := List.pairwise_iff_getElem.1 h
  rcases Nat.lt_trichotomy i j with hlt | he | hlt
  · exact absurd (h2.trans h4.symm) (hp i j h1 h3 hlt)
  · exact he
  · exact absurd (h4.trans h2.symm) (hp j i h3 h1 hlt)
/-- Some of the blocks, by new numbers. -/
theorem Mem_pick {μ : List Nat} {ok ok' : Nat → Prop} {bx : List B} {w : World} (hm : Mem μ ok bx w) {ids : List Nat} (hids : ∀ i, i ∈ ids → i < bx.length) (hnd : ids.Nodup) {f : L → L} (hRL : ∀ l u, RL μ ok w l u → RL (ids.map fun i => μ.getD i 0) ok' w (f l) u)
    (hok : ∀ i b g, i ∈ ids → bx[i]? = some b → b ≠ .hid → μ[i]? = some g → ¬ ok' g) (hsm : ∀ k, ok' k → k < w.heap.size) : Mem (ids.map fun i => μ.getD i 0) ok' (ids.map fun i => mapB f (bx.getD i .hid)) w := by
  have hml := hm.len
  have atB : ∀ (i : Nat) b, (ids.map fun i => mapB f (bx.getD i .hid))[i]? = some b → ∃ id b0, ids[i]? = some id ∧ bx[id]? = some b0 ∧ b = mapB f b0 := by
    intro i b h
    rw [List.getElem?_map] at h
    cases hq : ids[i]? with
    | none => rw [hq] at h; simp at h
    | some id =>
      rw [hq] at h
      have hlt := hids id (List.mem_of_getElem? hq)
      refine ⟨id, _, rfl, List.getElem?_eq_getElem hlt, ?_⟩
      rw [Option.map_some, List.getD_eq_getElem?_getD, List.getElem?_eq_getElem hlt] at h
      simpa using h.symm
  have atM : ∀ (i : Nat) g, (ids.map fun i => μ.getD i 0)[i]? = some g → ∃ id, ids[i]? = some id ∧ μ[id]? = some g := by
    intro i g h
    rw [List.getElem?_map] at h
    cases hq : ids[i]? with
    | none => rw [hq] at h; simp at h
    | some id =>
      rw [hq] at h
      have hlt : id < μ.length := by rw [hml]; exact hids id (List.mem_of_getElem? hq)
      refine ⟨id, rfl, ?_⟩
      rw [Option.map_some, List.getD_eq_getElem?_getD, List.getElem?_eq_getElem hlt] at h
      rw [List.getElem?_eq_getElem hlt]
      simpa using h
  refine ⟨by simp, ?_, ?_, ?_, hsm, ?_⟩
  · intro i j b b' g h1 h2 hn1 hn2 h3 h4
    obtain ⟨id, b0, h5, h6, rfl⟩ := atB i b h1
    obtain ⟨jd, b1, h7, h8, rfl⟩ := atB j b' h2
    obtain ⟨id', h9, h10⟩ := atM i g h3
    obtain ⟨jd', h11, h12⟩ := atM j g h4
    rw [h5] at h9; rw [h7] at h11
    obtain rfl : id = id' := by simpa using h9
    obtain rfl : jd = jd' := by simpa using h11
    have he := hm.nd id jd b0 b1 g h6 h8 (mapB_hid hn1) (mapB_hid hn2) h10 h12
    subst he
    exact nodup_inj hnd h5 h7
  · intro i b g h1 h2 hn
    obtain ⟨id, b0, h5, h6, rfl⟩ := atB i b h1
    obtain ⟨id', h9, h10⟩ := atM i g h2
    rw [h5] at h9
    obtain rfl : id = id' := by simpa using h9
    exact hok id b0 g (List.mem_of_getElem? h5) h6 (mapB_hid hn) h10
  · intro g hg
    obtain ⟨i, hi⟩ := List.getElem?_of_mem hg
    obtain ⟨id, h9, h10⟩ := atM i g hi
    exact hm.there g (List.mem_of_getElem? h10)
  · intro i b g h1 h2
    obtain ⟨id, b0, h5, h6, rfl⟩ := atB i b h1
    obtain ⟨id', h9, h10⟩ := atM i g h2
    rw [h5] at h9
    obtain rfl : id = id' := by simpa using h9
    exact BoxR_map b0 hRL (fun _ => rfl) (hm.box id b0 g h6 h10)
/-- All that is not kept is never written again. -/
def frozenBy (μ : List Nat) (bx : List B) (ids : List Nat) (ok : Nat → Prop) : Nat → Prop := fun k => ok k ∨ ∃ i b, i ∉ ids ∧ bx[i]? = some b ∧ b ≠ .hid ∧ μ[i]? = some k
theorem RL_pick {μ : List Nat} {ok : Nat → Prop} {bx : List B} {w : World} (hm : Mem μ ok bx w) (ids : List Nat) {l : L} {u : Value} (h : RL μ ok w l u) : RL (ids.map fun i => μ.getD i 0) (frozenBy μ bx ids ok) w (subL bx (pos ids) l) u :=
  RL_sub hm (fun _ _ h => h) (fun _ h => .inl h) (fun _ _ => rfl) (fun g _ cs t h => ⟨cs, h, rfl⟩) (fun id k g hr hg => by rw [List.getElem?_map, pos_at hr, Option.map_some, getD_at hg])
    (fun id _ hr es sz t g hb hg => ⟨.inr ⟨id, _, pos_none hr, hb, by simp, hg⟩, rfl⟩) h
theorem Mem_keep {μ : List Nat} {ok : Nat → Prop} {bx : List B} {w : World} (hm : Mem μ ok bx w) {ids : List Nat} (hids : ∀ i, i ∈ ids → i < bx.length) (hnd : ids.Nodup) :
    Mem (ids.map fun i => μ.getD i 0) (frozenBy μ bx ids ok) (ids.map fun i => mapB (subL bx (pos ids)) (bx.getD i .hid)) w := by
  refine Mem_pick hm hids hnd (fun l u h => RL_pick hm ids h) (fun i b g h1 h2 h3 h4 h5 => ?_) (fun k hk => ?_)
  · rcases h5 with h5 | ⟨j, b', h6, h7, h8, h9⟩
    · exact hm.live i b g h2 h4 h3 h5
    · exact h6 (hm.nd i j b b' g h2 h7 h3 h8 h4 h9 ▸ h1)
  · rcases hk with hk | ⟨j, b', h6, h7, h8, h9⟩
    · exact hm.small k hk
    · exact hm.there k (List.mem_of_getElem? h9)
/-- The lent blocks stand where they stood. -/
theorem ids_prefix {σ : St} {μ0 ν js : List Nat} (hm : σ.m = μ0.length) : (σ.ids js).map (fun i => (μ0 ++ ν).getD i 0) = μ0 ++ js.map (fun i => (μ0 ++ ν).getD i 0) := by
  unfold St.ids
  rw [List.map_append]
  congr 1
  apply List.ext_getElem?
  intro i
  rw [List.getElem?_map]
  by_cases hi : i < σ.m
  · rw [upto_at _ _ _ hi, Option.map_some, Nat.zero_add, List.getD_eq_getElem?_getD, List.getElem?_append_left (by omega), List.getElem?_eq_getElem (by omega)]
    rfl
  · rw [List.getElem?_eq_none (by rw [upto_len]; omega), List.getElem?_eq_none (by omega)]
    rfl
theorem good_lt {σ : St} {a : Act} {w : World} {ν js : List Nat} {ok : Nat → Prop} (hm : σ.m = μ0.length) (hR : Rl (μ0 ++ ν) ok σ a w) (hg : σ.good js) : ∀ i, i ∈ σ.ids js → i < σ.bx.length := by
  intro i hi
  rcases List.mem_append.1 hi with h | h
  · obtain ⟨q, hq⟩ := List.getElem?_of_mem h
    have hql := at_in hq
    rw [upto_len] at hql
    rw [upto_at _ _ _ hql] at hq
    have := hR.mem.len
    rw [List.length_append] at this
    have : 0 + q = i := by simpa using hq
    omega
  · exact hg.2 i h
theorem Out.keep {σ : St} {a : Act} {w : World} {ν js : List Nat} {ok : Nat → Prop} (hm : σ.m = μ0.length) (hR : Rl (μ0 ++ ν) ok σ a w) (hO : Out ok0 μ0 w0 ν ok w) (hg : σ.good js) : Out ok0 μ0 w0 (js.map fun i => (μ0 ++ ν).getD i 0) (frozenBy (μ0 ++ ν) σ.bx (σ.ids js) ok) w := by
  have hall : ∀ g, g ∈ μ0 ++ ν → w0.heap.size ≤ g ∨ g ∈ μ0 := by
    intro g h
    rcases List.mem_append.1 h with h | h
    · exact .inr h
    · exact hO.new g h
  refine ⟨hO.fw, fun k hk => .inl (hO.ok1 k hk), fun k hk => ?_, fun g h => ?_⟩
  · rcases hk with hk | ⟨j, b', h6, h7, h8, h9⟩
    · exact hO.ok2 k hk
    · exact .inr (hall k (List.mem_of_getElem? h9))
  · obtain ⟨i, hi, rfl⟩ := List.mem_map.1 h
    have hlt : i < (μ0 ++ ν).length := by rw [hR.mem.len]; exact hg.2 i hi
    rw [List.getD_eq_getElem?_getD, List.getElem?_eq_getElem hlt]
    exact hall _ (List.getElem_mem hlt)
theorem lk_keys (f : A → A) (tm : List (Nat × A)) : ∀ (ks : List Nat) (t : Nat), lk (ks.map fun k => (k, f (lk tm k))) t = if t ∈ ks then f (lk tm t) else .one .junk
  | [], t => by simp [lk]
  | k :: r, t => by
    rw [List.map_cons, lk, lk_keys f tm r t]
    by_cases e : k = t
    · subst e; simp
    · rw [if_neg e]
      have : (t ∈ k :: r) ↔ t ∈ r := by simp [Ne.symm e]
      simp only [this]
theorem Rel.keep {σ : St} {a : Act} {w : World} (h : Rel ok0 μ0 w0 σ a w) (ks js : List Nat) (hg : σ.good js) : Rel ok0 μ0 w0 (σ.keep ks js) a w := by
  obtain ⟨ν, ok, hm, hR, hO⟩ := h
  have hp := ids_prefix (ν := ν) (js := js) hm
  have h1 := Mem_keep hR.mem (good_lt hm hR hg) hg.1
  rw [hp] at h1
  refine ⟨_, _, hm, ⟨h1, hR.nt, fun t => ?_, hR.df⟩, hO.keep hm hR hg⟩
  show RA _ (lk (ks.map fun k => (k, mapA (subL σ.bx (pos (σ.ids js))) (lk σ.tm k))) t) _
  rw [lk_keys]
  split
  · rw [← hp]
    exact RA_map _ _ (fun l _ u hl => RL_pick hR.mem _ hl) (hR.tm t)
  · trivial
end
end Go.Proofs.YtdedmhmomoejkaaDoor.V
