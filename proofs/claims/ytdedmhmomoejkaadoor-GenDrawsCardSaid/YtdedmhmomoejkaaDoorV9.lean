import Derived.Test.YtdedmhmomoejkaaDoorV8
namespace Go.Proofs.YtdedmhmomoejkaaDoor.V
open Go Go.RowKit Go.Proofs.YtdedmhmomoejkaaDoorW.PrintLast
set_option linter.unusedVariables false
set_option linter.unusedSimpArgs false
section
variable {P : Program} {T : Ty} {ok0 : Nat → Prop} {μ0 ν : List Nat} {w0 : World}
theorem fn_ok {σ : St} {a : Act} {w : World} {μ : List Nat} {ok : Nat → Prop} (h : Rl μ ok σ a w) : ∀ (cs : List Operand) (ids : List Nat),
    cs.mapM (fun c => match strip (σ.ev c) with | (true, .one (.ptr id 0)) => some id | _ => none) = some ids →
    ∃ gs : List Nat, gs.length = ids.length ∧ (∀ (j : Nat) id, ids[j]? = some id → ∃ g, gs[j]? = some g ∧ μ[id]? = some g) ∧ cs.map a.eval = gs.map fun g => Value.pointer (some ⟨g, 0, none⟩)
  | [], ids, hm => by
    simp at hm
    subst hm
    exact ⟨[], rfl, fun j id hj => by simp at hj, rfl⟩
  | c :: cs, ids, hm => by
    simp only [List.mapM_cons] at hm
    split at hm
    · rename_i id heq
      cases hr : cs.mapM (fun c => match strip (σ.ev c) with | (true, .one (.ptr id 0)) => some id | _ => none) with
      | none => rw [hr] at hm; simp at hm
      | some r =>
        rw [hr] at hm
        simp at hm
        subst hm
        obtain ⟨gs, h1, h2, h3⟩ := fn_ok h cs r hr
        have hx := SR.of (ev_ok h c)
        rw [heq] at hx
        obtain ⟨g, hg, hu⟩ := hx rfl
        refine ⟨g :: gs, by simp [h1], fun j id' hj => ?_, by simp [h3, hu]⟩
        cases j with
        | zero =>
          obtain rfl : id = id' := by simpa using hj
          exact ⟨g, rfl, hg⟩
        | succ j => exact h2 j id' hj
    · simp at hm
theorem make_ok (hT : ∀ t i, T t = some i → TyOK P t i) {σ : St} {a : Act} {w : World} {t : TypeId} {x y : Operand} {k : A → St → Prop} (h : RelX ok0 μ0 w0 ν σ a w) (he : eMake T σ t (strip (σ.ev x)) (strip (σ.ev y)) k) :
    ∃ r σ' v w', (Instr.makeSlice t (a.eval x) (a.eval y)).run P w = .ok v w' ∧ RelA ok0 μ0 w0 ν σ' a w' r v ∧ k r σ' ∧ Below w.heap.size w w' := by
  unfold eMake at he
  split at he
  · rename_i e _ _ _ hTs
    split at he
    · rename_i g kl n g' kc m heq1 heq2
      obtain ⟨h1, h2, h3, h4, h5, h6, h7, h8, h9, h10⟩ := he
      have hu := slice_under hT hTs
      obtain ⟨i, hi, hs⟩ := known_some h5
      have hz0 : zeroL T e = i.zero.map fun x => L.c (.v x) := by unfold zeroL; rw [hi]
      have hby : T.bytes e = i.bytes := by unfold Ty.bytes; rw [hi]
      rw [hby] at h8
      rw [hz0, List.length_map] at h9
      obtain ⟨j, z, e1, e2, e3, e4, e5⟩ := (hT _ _ hi).info
      obtain ⟨ok, _, hR, _⟩ := id h
      have hx := SR.of (ev_ok hR x)
      have hy := SR.of (ev_ok hR y)
      rw [heq1] at hx
      rw [heq2] at hy
      have hx : a.eval x = .int kl n := hx h1
      have hy : a.eval y = .int kc m := hy h2
      obtain ⟨nn, rfl⟩ : ∃ nn : Nat, n = (nn : Int) := ⟨n.toNat, by omega⟩
      obtain ⟨mm, rfl⟩ : ∃ mm : Nat, m = (mm : Int) := ⟨m.toNat, by omega⟩
      simp only [Int.toNat_natCast] at h7 h8 h10
      have hmx : (mm : Int) ≤ 9223372036854775807 := by simp only [maxLen] at h7; omega
      have hr := run_make (P := P) w t e j z hu e1 e4 kl kc nn mm (by omega) h4 (by
        have hq : ((i.bytes * mm : Nat) : Int) ≤ 281474976710656 := by omega
        rw [e3]
        rwa [Int.natCast_mul] at hq) hmx
      simp only [Int.toNat_natCast] at hr
      have hle : nn ≤ mm := by omega
      refine ⟨_, _, .slice (some ⟨w.heap.size, 0, none⟩) nn mm, _, by rw [hx, hy]; exact hr, h.alloc (.cells (madeCells z.cells (mm * j.size)) e) (.arr (List.replicate nn (zeroL T e)) (T.size e) e) (.one (.own σ.bx.length (T.size e) 0 nn)) _ (fun μ ok hR hRL => ⟨⟨_, mm, heap_alloc_new w _, by simp [madeCells, e2, hs], by simpa using hle, h7, ?_⟩, fun hid => ⟨w.heap.size, mm, _, e, hid, by rw [Nat.zero_mul], hle, heap_alloc_new w _, by simp [madeCells, e2, hs]⟩⟩), h10, below_alloc _ _⟩
      intro q el hq
      rw [List.getElem?_replicate] at hq
      split at hq
      · rename_i hqn
        obtain rfl := Option.some.inj hq
        rw [hz0]
        refine ⟨by rw [List.length_map, h9], fun jj x hj => ?_⟩
        rw [List.getElem?_map] at hj
        cases hzz : i.zero[jj]? with
        | none => rw [hzz] at hj; simp at hj
        | some u =>
          rw [hzz] at hj
          obtain rfl : L.c (.v u) = x := by simpa using hj
          refine ⟨u, ?_, rfl⟩
          have hjl : jj < i.size := by rw [← hs, ← h9]; exact (List.getElem?_eq_some_iff.1 hzz).1
          have hzs : z.cells.size = i.size := by
            have : z.cells.toList.length = z.cells.size := Array.length_toList
            rw [e5, h9] at this
            omega
          have hlt : q * T.size e + jj < mm * j.size := by
            have : (q + 1) * T.size e ≤ mm * T.size e := Nat.mul_le_mul_right _ (by omega)
            rw [Nat.add_mul] at this
            rw [e2, ← hs]
            omega
          unfold madeCells
          rw [Array.getElem?_map, Array.getElem?_range, if_pos hlt]
          simp only [Option.map_some]
          congr 1
          rw [hzs, hs, Nat.add_comm, Nat.add_mul_mod_self_right, Nat.mod_eq_of_lt hjl]
          have hzl : z.cells.toList[jj]? = some u := by rw [e5]; exact hzz
          have : z.cells[jj]? = some u := by simpa using hzl
          rw [getElem!_def, this]
      · cases hq
    · exact he.elim
  · exact he.elim
theorem fill_lit {size : Nat} : ∀ (vs : List Value) (i0 : Nat) (cs : Array Value), (∀ v, v ∈ vs → v.cells.size = size) → (i0 + vs.length) * size ≤ cs.size →
    ∃ cs', Instr.fill (fun i => some (i * size, size)) cs ((vs.zipIdx i0).map fun p => (p.2, p.1)) = some cs' ∧ cs'.toList = cs.toList.take (i0 * size) ++ vs.flatMap (fun v => v.cells.toList) ++ cs.toList.drop ((i0 + vs.length) * size)
  | [], i0, cs, _, _ => ⟨cs, rfl, by simp⟩
  | v :: vs, i0, cs, hv, hl => by
    have hvs := hv v List.mem_cons_self
    have hlen : (i0 + (v :: vs).length) * size = i0 * size + size + vs.length * size := by
      simp only [List.length_cons]
      rw [show i0 + (vs.length + 1) = i0 + 1 + vs.length by omega, Nat.add_mul, Nat.add_mul, Nat.one_mul]
    have hcl : v.cells.toList.length = size := by rw [Array.length_toList]; exact hvs
    have hfo := foldl_set v.cells.toList cs (i0 * size) 0 (by rw [hcl]; omega)
    have hsz : ((v.cells.toList.zipIdx 0).foldl (fun cs (x : Value × Nat) => cs.setIfInBounds (i0 * size + x.2) x.1) cs).toList.length = cs.size := by
      rw [hfo]
      have : cs.toList.length = cs.size := Array.length_toList
      simp only [List.length_append, List.length_take, List.length_drop, hcl]
      omega
    obtain ⟨cs', h1, h2⟩ := fill_lit vs (i0 + 1) ((v.cells.toList.zipIdx 0).foldl (fun cs (x : Value × Nat) => cs.setIfInBounds (i0 * size + x.2) x.1) cs) (fun u hu => hv u (List.mem_cons_of_mem _ hu)) (by
      rw [Array.length_toList] at hsz
      rw [hsz, show i0 + 1 + vs.length = i0 + (v :: vs).length by simp only [List.length_cons]; omega]
      exact hl)
    refine ⟨cs', ?_, ?_⟩
    · rw [List.zipIdx_cons, List.map_cons, Instr.fill]
      simp only
      rw [if_neg (by simp [hvs]; omega), ← h1]
      congr 1
      rw [← Array.foldl_toList]
      simp [Array.toList_zipIdx]
    · rw [h2, hfo, hcl]
      simp only [Nat.add_zero]
      have ht : (cs.toList.take (i0 * size)).length = i0 * size := by
        have : cs.toList.length = cs.size := Array.length_toList
        rw [List.length_take]; omega
      have e1 : (i0 + 1) * size = i0 * size + size := by rw [Nat.add_mul, Nat.one_mul]
      have e2 : (i0 + 1 + vs.length) * size = i0 * size + size + vs.length * size := by rw [Nat.add_mul, Nat.add_mul, Nat.one_mul]
      have e3 : (i0 + (vs.length + 1)) * size = i0 * size + size + vs.length * size := by rw [show i0 + (vs.length + 1) = i0 + 1 + vs.length by omega]; exact e2
      simp only [List.flatMap_cons, List.length_cons, e1, e2, e3]
      have hA : (cs.toList.take (i0 * size) ++ v.cells.toList).length = i0 * size + size := by rw [List.length_append, ht, hcl]
      rw [List.take_left' hA, List.drop_append, hA]
      rw [List.drop_of_length_le (show (cs.toList.take (i0 * size) ++ v.cells.toList).length ≤ i0 * size + size + vs.length * size by rw [hA]; omega)]
      rw [List.drop_drop, show i0 * size + size + (i0 * size + size + vs.length * size - (i0 * size + size)) = i0 * size + size + vs.length * size by omega]
      simp
end

section
variable {P : Program} {T : Ty} {ok0 : Nat → Prop} {μ0 ν : List Nat} {w0 : World}
theorem flat_at {size : Nat} : ∀ (vs : List Value), (∀ v, v ∈ vs → v.cells.size = size) → ∀ (i j : Nat) (v : Value), vs[i]? = some v → j < size → (vs.flatMap fun v => v.cells.toList)[i * size + j]? = v.cells[j]?
  | [], _, i, j, v, h, _ => by simp at h
  | u :: vs, hv, i, j, v, h, hj => by
    have hu : u.cells.toList.length = size := by rw [Array.length_toList]; exact hv u List.mem_cons_self
    rw [List.flatMap_cons]
    cases i with
    | zero =>
      obtain rfl : u = v := by simpa using h
      rw [Nat.zero_mul, Nat.zero_add, List.getElem?_append_left (by omega)]
      simp
    | succ i =>
      rw [List.getElem?_append_right (by rw [hu, Nat.add_mul]; omega), hu, show (i + 1) * size + j - size = i * size + j by rw [Nat.add_mul]; omega]
      exact flat_at vs (fun v hv' => hv v (List.mem_cons_of_mem _ hv')) i j v h hj
theorem flat_len {size : Nat} : ∀ (vs : List Value), (∀ v, v ∈ vs → v.cells.size = size) → (vs.flatMap fun v => v.cells.toList).length = vs.length * size
  | [], _ => by simp
  | u :: vs, hv => by
    have hu : u.cells.toList.length = size := by rw [Array.length_toList]; exact hv u List.mem_cons_self
    rw [List.flatMap_cons, List.length_append, hu, flat_len vs (fun v hv' => hv v (List.mem_cons_of_mem _ hv')), List.length_cons, Nat.add_mul]
    omega
theorem mapM_at {α β : Type} {f : α → Option β} : ∀ {l : List α} {r : List β}, l.mapM f = some r → l.length = r.length ∧ ∀ (i : Nat) y, r[i]? = some y → ∃ x, l[i]? = some x ∧ f x = some y
  | [], r, h => by
    simp at h
    subst h
    exact ⟨rfl, fun i y hy => by simp at hy⟩
  | x :: l, r, h => by
    simp only [List.mapM_cons] at h
    cases hx : f x with
    | none => simp [hx] at h
    | some y =>
      cases hr : l.mapM f with
      | none => simp [hx, hr] at h
      | some r' =>
        simp [hx, hr] at h
        subst h
        obtain ⟨h1, h2⟩ := mapM_at hr
        refine ⟨by simp [h1], fun i z hz => ?_⟩
        cases i with
        | zero =>
          obtain rfl : y = z := by simpa using hz
          exact ⟨x, rfl, hx⟩
        | succ i => exact h2 i z hz
theorem lit_ok (hT : ∀ t i, T t = some i → TyOK P t i) {σ : St} {a : Act} {w : World} {t : TypeId} {n : Nat} {ps : Array (Nat × Operand)} {k : A → St → Prop} (h : RelX ok0 μ0 w0 ν σ a w)
    (he : eLit T σ t n (ps.toList.map fun p => (p.1, strip (σ.ev p.2))) k) :
    ∃ r σ' v w', (Instr.buildSlice t n (ps.map fun (i, x) => (i, a.eval x))).run P w = .ok v w' ∧ RelA ok0 μ0 w0 ν σ' a w' r v ∧ k r σ' ∧ Below w.heap.size w w' := by
  unfold eLit at he
  split at he
  · rename_i e _ _ _ hTs
    obtain ⟨h1, h2, h3, h4, h5, h6, h7, h8⟩ := he
    have hu := slice_under hT hTs
    obtain ⟨i, hi, hs⟩ := known_some h3
    obtain ⟨z, hz, hzl⟩ := run_zero (w := w) (hT _ _ hi)
    have hn : ps.toList.length = n := by
      have := congrArg List.length h1
      simpa using this
    -- of each part: its cells
    have part : ∀ μ ok, Rl μ ok σ a w → ∀ (q : Nat) p, ps.toList[q]? = some p → (leaves (strip (σ.ev p.2)).2).length = T.size e ∧ RLs (RL μ ok w) (leaves (strip (σ.ev p.2)).2) (a.eval p.2).cells.toList := by
      intro μ ok hR q p hq
      have hall := List.all_eq_true.1 h2 (p.1, strip (σ.ev p.2)) (by
        apply List.mem_map.2
        exact ⟨p, List.mem_of_getElem? hq, rfl⟩)
      simp only [Bool.and_eq_true] at hall
      have hlen := List.all_eq_true.1 h7 (p.1, strip (σ.ev p.2)) (by
        apply List.mem_map.2
        exact ⟨p, List.mem_of_getElem? hq, rfl⟩)
      exact ⟨by simpa using hlen, leaves_ok (ev_strip hR p.2 hall.1.1) hall.1.2⟩
    obtain ⟨ok1, _, hR0, _⟩ := id h
    have hcsz : ∀ v, v ∈ (ps.toList.map fun p => a.eval p.2) → v.cells.size = i.size := by
      intro v hv
      obtain ⟨p, hp, rfl⟩ := List.mem_map.1 hv
      obtain ⟨q, hq⟩ := List.getElem?_of_mem hp
      obtain ⟨h9, h11⟩ := part _ ok1 hR0 q p hq
      have h12 := h11.1
      have h13 : (a.eval p.2).cells.toList.length = (a.eval p.2).cells.size := Array.length_toList
      omega
    have hparts : (ps.map fun (i, x) => (i, a.eval x)).toList = ((ps.toList.map fun p => a.eval p.2).zipIdx 0).map fun p => (p.2, p.1) := by
      apply List.ext_getElem?
      intro q
      rw [Array.toList_map, List.getElem?_map, List.getElem?_map, List.getElem?_zipIdx, List.getElem?_map]
      cases hq : ps.toList[q]? with
      | none => rfl
      | some p =>
        have := congrArg (fun l => l[q]?) h1
        simp only [List.map_map, List.getElem?_map, hq, Option.map_some] at this
        have hql : q < n := by rw [← hn]; exact (List.getElem?_eq_some_iff.1 hq).1
        rw [List.getElem?_range hql] at this
        simp at this
        simp [this]
    obtain ⟨cs', hf, hcs'⟩ := fill_lit (size := i.size) (ps.toList.map fun p => a.eval p.2) 0 ((Array.range (n * i.size)).map (z.cells[· % z.cells.size]!)) hcsz (by simp [hn])
    have hcl : cs'.toList = (ps.toList.map fun p => a.eval p.2).flatMap fun v => v.cells.toList := by
      rw [hcs']
      have hd : (((Array.range (n * i.size)).map (z.cells[· % z.cells.size]!)).toList.drop ((0 + (ps.toList.map fun p => a.eval p.2).length) * i.size)) = [] := by
        apply List.drop_of_length_le
        simp [hn]
      rw [hd]
      simp
    have hsz : cs'.size = n * i.size := by
      rw [← Array.length_toList, hcl, flat_len _ hcsz]
      simp [hn]
    have hle : ¬ (n * i.size > 2 ^ 24) := by
      have : n * i.size ≤ 1000 * 1000 := Nat.mul_le_mul h5 (by omega)
      omega
    have hn0 : n * i.size = 0 ∨ ¬ n * i.size = 0 := Decidable.em _
    have hrun : (Instr.buildSlice t n (ps.map fun (i, x) => (i, a.eval x))).run P w = .ok (.slice (some ⟨w.heap.size, 0, none⟩) n n) (w.alloc (.cells cs' e)) := by
      rcases hn0 with h0 | h0
      · have hnz : n = 0 := by
          rcases Nat.mul_eq_zero.1 h0 with h | h
          · exact h
          · omega
        subst hnz
        have hnil : ps.toList.map (fun p => a.eval p.2) = [] := by
          apply List.eq_nil_of_length_eq_zero
          simp [hn]
        rw [hnil] at hf
        simp only [List.zipIdx_nil, List.map_nil, Instr.fill, Option.some.injEq] at hf
        have hce : cs' = #[] := by rw [← hf]; simp
        have hps : ps = #[] := by apply Array.ext'; exact List.length_eq_zero_iff.1 hn
        have hr0 : Array.range 0 = #[] := rfl
        rw [hps, hce]
        simp [hr0, Instr.buildSlice, run_under hu, run_size (hT _ _ hi), Instr.fill, newRow]
      · simp only [Instr.buildSlice, Sem.run_bind, run_under hu, Result.andThen_ok, run_size (hT _ _ hi), if_neg hle, if_neg h0, hz, Sem.run_pure]
        rw [hparts, hf]
        simp [newRow]
    refine ⟨_, _, .slice (some ⟨w.heap.size, 0, none⟩) n n, _, hrun, h.alloc (.cells cs' e) (.arr ((ps.toList.map fun p => (p.1, strip (σ.ev p.2))).map fun p => leaves p.2.2) (T.size e) e) (.one (.own σ.bx.length (T.size e) 0 n)) _ (fun μ ok hR hRL => ⟨⟨_, n, heap_alloc_new w _, by rw [hsz, hs], by simp only [List.length_map]; omega, by simp only [maxLen]; omega, ?_⟩, fun hid => ⟨w.heap.size, n, _, e, hid, by rw [Nat.zero_mul], Nat.le_refl _, heap_alloc_new w _, by rw [hsz, hs, Nat.zero_add]⟩⟩), h8, below_alloc _ _⟩
    intro q el hq
    rw [List.map_map, List.getElem?_map] at hq
    cases hp : ps.toList[q]? with
    | none => rw [hp] at hq; simp at hq
    | some p =>
      rw [hp] at hq
      obtain rfl : leaves (strip (σ.ev p.2)).2 = el := by simpa using hq
      obtain ⟨h10, h12⟩ := part μ ok hR q p hp
      refine ⟨h10, fun jj x hj => ?_⟩
      obtain ⟨v, hv1, hv2⟩ := h12.2 jj x hj
      refine ⟨v, ?_, hRL _ _ hv2⟩
      have hjl : jj < i.size := by rw [← hs, ← h10]; exact (List.getElem?_eq_some_iff.1 hj).1
      have := flat_at _ hcsz q jj (a.eval p.2) (by rw [List.getElem?_map, hp]; rfl) hjl
      rw [← hcl] at this
      rw [hs]
      have e1 : cs'[q * i.size + jj]? = cs'.toList[q * i.size + jj]? := by simp
      rw [e1, this]
      simpa using hv1
  · exact he.elim
end
end Go.Proofs.YtdedmhmomoejkaaDoor.V
