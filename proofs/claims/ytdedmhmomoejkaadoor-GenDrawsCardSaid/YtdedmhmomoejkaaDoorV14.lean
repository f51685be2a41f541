import Derived.Test.YtdedmhmomoejkaaDoorV13
namespace Go.Proofs.YtdedmhmomoejkaaDoor.V
open Go Go.RowKit Go.Proofs.YtdedmhmomoejkaaDoorW.PrintLast
set_option linter.unusedVariables false
set_option linter.unusedSimpArgs false
section
variable {P : Program} {T : Ty} {ok0 : Nat → Prop} {μ0 ν : List Nat} {w0 : World}
theorem run_call {o : Oper} {f : Operand} {xs : Array Operand} {ts : Array TypeId} {ρ : Operand → Value} {g : FuncId} {caps : Array Value} {fn : Func} {w : World} (hop : o.op = .call ⟨.value f, xs, ts⟩) (hf : ρ f = .func (.func g) #[] caps)
    (h1 : P.funcs[g]? = some fn) (h2 : (fn.name == "runtime.NumGoroutine") = false) (h3 : fn.body.isSome = true) : (execOp ρ o).run P w = .ok (.enter g (xs.map ρ ++ caps)) w := by
  have hn : fn.name ≠ "runtime.NumGoroutine" := by simpa using h2
  obtain ⟨c, hc⟩ := Option.isSome_iff_exists.1 h3
  have he : (callFunc g (xs.map ρ ++ caps)).run P w = .ok (.enter g (xs.map ρ ++ caps)) w := by simp [callFunc, h1, hn, hc]
  unfold execOp
  simp [hop, resolve, Deferred.ofValue, invoke, hf, he]
theorem clean_ok {μ : List Nat} {ok ok' : Nat → Prop} {w : World} {l : L} {u : Value} (hc : cleanL l = true) (h : RL μ ok w l u) : RL μ ok' w l u := by
  cases l with
  | c x => cases x with
    | v x => exact h
    | sl n sz f => simp [cleanL] at hc
    | any => trivial
  | rp n f => simp [cleanL] at hc
  | _ => exact h
theorem clean_sub {ρ : Nat → Option Nat} {l : L} (hc : cleanL l = true) : cleanL (subL [] ρ l) = true := by
  cases l with
  | c x => exact hc
  | rp n f => simp [cleanL] at hc
  | own id sz o n => simp only [subL]; cases ρ id <;> rfl
  | ptr id off => simp only [subL]; cases ρ id <;> rfl
  | ep id sz i off => simp only [subL]; cases ρ id <;> rfl
  | fn f caps => simp only [subL]; cases caps.mapM ρ <;> rfl
  | junk => rfl
theorem mapA_id {f : L → L} (hf : ∀ l, f l = l) : ∀ a : A, mapA f a = a
  | .one l => by rw [mapA, hf]
  | .agg ls => by rw [mapA]; congr 1; exact List.map_id'' hf ls
  | .tup xs => by
    rw [mapA]; congr 1
    refine List.map_id'' (fun x => ?_) xs
    rw [show x.1.map f = x.1 from List.map_id'' hf x.1]
  | .opt g a => by rw [mapA, mapA_id hf a]
theorem mapB_id {f : L → L} (hf : ∀ l, f l = l) (b : B) : mapB f b = b := by
  cases b with
  | var ls t => simp only [mapB]; rw [List.map_id'' hf]
  | arr es sz t => simp only [mapB]; rw [List.map_id'' (fun e => List.map_id'' hf e)]
  | _ => rfl
theorem Fw.mono {μ μ' : List Nat} {w w' : World} (h : Fw μ w w') (hs : ∀ g, g ∈ μ → g ∈ μ') : Fw μ' w w' :=
  ⟨h.os, h.tape, h.output, h.size, fun k hk hn => h.block k hk (fun hm => hn (hs k hm)), h.kept⟩
theorem freeze_at {bx : List B} {f : B → B} {ids : List Nat} {i : Nat} {b : B} (h : ((bx.map f).zipIdx.map fun p => if p.2 ∈ ids then B.hid else p.1)[i]? = some b) : ∃ b0, bx[i]? = some b0 ∧ b = if i ∈ ids then .hid else f b0 := by
  rw [List.getElem?_map, List.getElem?_zipIdx, List.getElem?_map] at h
  cases hq : bx[i]? with
  | none => rw [hq] at h; simp at h
  | some q =>
    rw [hq] at h
    refine ⟨q, rfl, ?_⟩
    simpa using h.symm
theorem lk_map (f : A → A) (hf : f (.one .junk) = .one .junk) (t : Nat) : ∀ (tm : List (Nat × A)), lk (tm.map fun p => (p.1, f p.2)) t = f (lk tm t)
  | [] => hf.symm
  | p :: r => by
    simp only [List.map_cons, lk]
    split
    · rfl
    · exact lk_map f hf t r
theorem call_ok {gr : Option (List Nat)} {σ : St} {a : Act} {w : World} {o : Oper} {f : Operand} {xs : Array Operand} {ts : Array TypeId} {g : FuncId} {caps lids : List Nat} {k : A → St → Prop} {K : Act → World → Prop} {Q : Exit → Act → World → Prop} (hop : o.op = .call ⟨.value f, xs, ts⟩) (h : RelX ok0 μ0 w0 ν σ a w)
    (hf : strip (σ.ev f) = (true, .one (.fn g caps))) (hx : (xs.toList.all fun x => (strip (σ.ev x)).1) = true) (hgr : lentIn gr lids) (hnd : lids.Nodup) (hnh : (lids.all fun i => notHid σ.bx[i]?) = true)
    (hc : PC P g (((xs.toList.map fun x => (strip (σ.ev x)).2).map fun x => mapA (subL σ.bx (pos lids)) x) ++ caps.map fun c => .one (subL σ.bx (pos lids) (.ptr c 0))) (lids.map fun i => mapB (subL [] (pos lids)) (σ.bx.getD i .hid))
      (callK σ lids (((xs.toList.map fun x => (strip (σ.ev x)).2).flatMap idsA).filter fun i => !lids.contains i) k))
    (hK : ∀ r σ' v w', RelA ok0 μ0 w0 ν σ' a w' r v → (∀ D, gr = some D → Fw (D.map fun i => (μ0 ++ ν).getD i 0) w w') → k r σ' → K (a.put o.dst v) w') : o.wp P a w K Q := by
  obtain ⟨ok, hm, hR, hO⟩ := h
  rw [List.map_map, List.flatMap_map] at hc
  obtain ⟨⟨fn, hf1, hf2, hf3⟩, hcall⟩ := hc
  have hfv : ∃ cs : Array Value, a.eval f = .func (.func g) #[] cs ∧ cs.size = caps.length ∧ ∀ (j : Nat) id, caps[j]? = some id → ∃ gb, (μ0 ++ ν)[id]? = some gb ∧ cs[j]? = some (.pointer (some ⟨gb, 0, none⟩)) := by
    have hF := SR.of (ev_ok hR f)
    rw [hf] at hF
    obtain ⟨gs, h1, h2, h3⟩ := hF rfl
    refine ⟨_, h3, by simp [h1], fun j id hj => ?_⟩
    obtain ⟨gb, h4, h5⟩ := h2 j id hj
    exact ⟨gb, h5, by simp [h4]⟩
  obtain ⟨cs, hfv, hcsz, hcap⟩ := hfv
  have hrun := run_call (P := P) (w := w) hop hfv hf1 hf2 hf3
  generalize hvids : ((xs.toList.flatMap fun x => idsA (strip (σ.ev x)).2).filter fun i => !lids.contains i) = vids at hcall
  have hvl : ∀ i, i ∈ vids → i ∉ lids := by
    intro i hi
    rw [← hvids] at hi
    have := (List.mem_filter.1 hi).2
    simpa using this
  have hnh' : ∀ i, i ∈ lids → ∃ b, σ.bx[i]? = some b ∧ b ≠ .hid := by
    intro i hi
    have := List.all_eq_true.1 hnh i hi
    cases hb : σ.bx[i]? with
    | none => rw [hb] at this; cases this
    | some b => exact ⟨b, rfl, fun e => by rw [hb, e] at this; cases this⟩
  have hmm := hR.mem
  have hml := hmm.len
  have hll : ∀ i, i ∈ lids → i < σ.bx.length := fun i hi => let ⟨b, hb, _⟩ := hnh' i hi; at_in hb
  have hposg : ∀ id k gb, pos lids id = some k → (μ0 ++ ν)[id]? = some gb → (lids.map fun i => (μ0 ++ ν).getD i 0)[k]? = some gb := fun id k gb hr hg => by rw [List.getElem?_map, pos_at hr, Option.map_some, getD_at hg]
  unfold Oper.wp
  rw [hrun, Oper.upon_enter]
  -- what is never written again while it runs
  let ok2 : Nat → Prop := fun k => ok k ∨ ∃ id b, id ∈ vids ∧ σ.bx[id]? = some b ∧ b ≠ .hid ∧ (μ0 ++ ν)[id]? = some k
  have hok2 : ∀ (i : Nat) b gb, i ∉ vids → σ.bx[i]? = some b → b ≠ .hid → (μ0 ++ ν)[i]? = some gb → ¬ ok2 gb := by
    intro i b gb hi hb hne hg hk
    rcases hk with hk | ⟨id, b', h1, h2, h3, h4⟩
    · exact hmm.live i b gb hb hg hne hk
    · exact hi (hmm.nd i id b b' gb hb h2 hne h3 hg h4 ▸ h1)
  have hsub : ∀ (vbx : List B) (hvb : ∀ (i : Nat) b, vbx[i]? = some b → σ.bx[i]? = some b) (l : L) (u : Value), (∀ id, id ∈ idsL l → pos lids id = none → ∀ es sz t gb, vbx[id]? = some (.arr es sz t) → (μ0 ++ ν)[id]? = some gb → ok2 gb) → RL (μ0 ++ ν) ok w l u → RL (lids.map fun i => (μ0 ++ ν).getD i 0) ok2 w (subL vbx (pos lids) l) u :=
    fun vbx hvb l u hv hl => RL_sub hmm hvb (fun _ h => .inl h) (fun _ _ => rfl) (fun g _ cs t h => ⟨cs, h, rfl⟩) hposg (fun id h1 h2 es sz t gb h3 h4 => ⟨hv id h1 h2 es sz t gb h3 h4, rfl⟩) hl
  have hargs := hcall ok2 (lids.map fun i => (μ0 ++ ν).getD i 0) w (xs.map a.eval ++ cs)
    (fun b hb => by
      obtain ⟨i, hi, rfl⟩ := List.mem_map.1 hb
      obtain ⟨b0, h1, h2⟩ := hnh' i hi
      rw [List.getD_eq_getElem?_getD, h1, Option.getD_some]
      cases b0 <;> simp [mapB] at h2 ⊢)
    (Mem_pick hmm hll hnd (fun l u hl => hsub [] (fun i b h => by simp at h) l u (fun id _ _ es sz t gb h => by simp at h) hl)
      (fun i b gb h1 h2 h3 h4 => hok2 i b gb (fun hv => hvl i hv h1) h2 h3 h4)
      (fun k hk => by
        rcases hk with hk | ⟨id, b', _, _, _, h4⟩
        · exact hmm.small k hk
        · exact hmm.there k (List.mem_of_getElem? h4)))
    (by simp [hcsz])
    (fun j y hy => by
      have hxl : xs.toList.length = xs.size := Array.length_toList
      rw [List.getElem?_append] at hy
      split at hy
      · rename_i hj
        rw [List.length_map] at hj
        rw [List.getElem?_map] at hy
        cases hq : xs.toList[j]? with
        | none => rw [hq] at hy; simp at hy
        | some q =>
          rw [hq] at hy
          obtain rfl : mapA (subL σ.bx (pos lids)) (strip (σ.ev q)).2 = y := by simpa using hy
          refine ⟨a.eval q, ?_, ?_⟩
          · rw [Array.getElem?_toList] at hq
            rw [Array.getElem?_append_left (by simp; omega), Array.getElem?_map, hq]; rfl
          · refine RA_map _ _ (fun l hl u hu => hsub σ.bx (fun _ _ h => h) l u (fun id h1 h2 es sz t gb h3 h4 => .inr ⟨id, _, ?_, h3, by simp, h4⟩) hu) (ev_strip hR q (List.all_eq_true.1 hx q (List.mem_of_getElem? hq)))
            rw [← hvids]
            exact List.mem_filter.2 ⟨List.mem_flatMap.2 ⟨q, List.mem_of_getElem? hq, ids_leaf h1 _ hl⟩, by simpa using pos_none h2⟩
      · rename_i hj
        rw [List.length_map] at hj
        rw [List.length_map, List.getElem?_map] at hy
        cases hq : caps[j - xs.toList.length]? with
        | none => rw [hq] at hy; simp at hy
        | some q =>
          rw [hq] at hy
          obtain rfl : A.one (subL σ.bx (pos lids) (.ptr q 0)) = y := by simpa using hy
          obtain ⟨gb, h1, h2⟩ := hcap _ q hq
          refine ⟨.pointer (some ⟨gb, 0, none⟩), ?_, hsub σ.bx (fun _ _ h => h) (.ptr q 0) _ (fun id h => by simp [idsL] at h) ⟨gb, h1, rfl⟩⟩
          rw [Array.getElem?_append_right (by simp; omega)]
          simpa using h2)
  refine hargs.mono fun e w' hh => ?_
  obtain ⟨cv, r, bx2, ν2, ok3, rfl, hQ, hr, hm2, hν2, hF, h3, h4⟩ := hh
  show K (a.put o.dst cv) w'
  have hsubl : ∀ x, x ∈ lids.map (fun i => (μ0 ++ ν).getD i 0) → x ∈ μ0 ++ ν := by
    intro x hx
    obtain ⟨j, hj, rfl⟩ := List.mem_map.1 hx
    have hjl : j < (μ0 ++ ν).length := by rw [hml]; exact hll j hj
    rw [List.getD_eq_getElem?_getD, List.getElem?_eq_getElem hjl]
    exact List.getElem_mem hjl
  have hB : ∀ D, gr = some D → Fw (D.map fun i => (μ0 ++ ν).getD i 0) w w' := by
    intro D e
    subst e
    refine hF.mono fun g hg => ?_
    obtain ⟨i, hi, rfl⟩ := List.mem_map.1 hg
    exact List.mem_map.2 ⟨i, by simpa using List.all_eq_true.1 hgr i hi, rfl⟩
  -- lent blocks are not among those that are never written again
  have hlent : ∀ k, k ∈ lids.map (fun i => (μ0 ++ ν).getD i 0) → ∀ (i : Nat) b, i ∉ lids → σ.bx[i]? = some b → b ≠ .hid → (μ0 ++ ν)[i]? ≠ some k := by
    intro k hk i b hi hb hne hg
    obtain ⟨j, hj, hjk⟩ := List.mem_map.1 hk
    obtain ⟨b', hb', hne'⟩ := hnh' j hj
    have hjl : j < (μ0 ++ ν).length := by rw [hml]; exact at_in hb'
    have hjg : (μ0 ++ ν)[j]? = some k := by
      rw [List.getD_eq_getElem?_getD, List.getElem?_eq_getElem hjl] at hjk
      rw [List.getElem?_eq_getElem hjl]
      simpa using hjk
    exact hi (hmm.nd i j b b' k hb hb' hne hne' hg hjg ▸ hj)
  have hokF : ∀ k, ok k → w'.heap[k]? = w.heap[k]? := fun k hk => hF.block k (hmm.small k hk) (fun hx => by
    obtain ⟨j, hj, hjk⟩ := List.mem_map.1 hx
    obtain ⟨b', hb', hne'⟩ := hnh' j hj
    have hjl : j < (μ0 ++ ν).length := by rw [hml]; exact at_in hb'
    have hjg : (μ0 ++ ν)[j]? = some k := by
      rw [List.getD_eq_getElem?_getD, List.getElem?_eq_getElem hjl] at hjk
      rw [List.getElem?_eq_getElem hjl]
      simpa using hjk
    exact hmm.live j b' k hb' hjg hne' hk)
  have hshape : ∀ gb, gb ∈ μ0 ++ ν → ∀ cs t, w.heap[gb]? = some (.cells cs t (0, 0)) → ∃ cs', w'.heap[gb]? = some (.cells cs' t (0, 0)) ∧ cs'.size = cs.size := fun gb hg cs t hc => hF.kept gb (hmm.there gb hg) cs t hc
  -- the callee's numbers
  have hupg : ∀ id k gb, up lids σ.bx.length id = some k → (lids.map (fun i => (μ0 ++ ν).getD i 0) ++ ν2)[id]? = some gb → ((μ0 ++ ν) ++ ν2)[k]? = some gb := by
    intro id k gb hu hg
    unfold up at hu
    simp only [Option.some.injEq] at hu
    subst hu
    split
    · rename_i hlt
      rw [List.getElem?_append_left (by rw [List.length_map]; exact hlt), List.getElem?_map, List.getElem?_eq_getElem hlt, Option.map_some] at hg
      rw [List.getD_eq_getElem?_getD (l := lids), List.getElem?_eq_getElem hlt, Option.getD_some]
      have hjl : lids[id] < (μ0 ++ ν).length := by rw [hml]; exact hll _ (List.getElem_mem hlt)
      rw [List.getElem?_append_left hjl, List.getElem?_eq_getElem hjl]
      rw [List.getD_eq_getElem?_getD, List.getElem?_eq_getElem hjl] at hg
      simpa using hg
    · rename_i hge
      rw [List.getElem?_append_right (by rw [List.length_map]; omega), List.length_map] at hg
      rw [List.getElem?_append_right (by omega), ← hg]
      congr 1
      omega
  have hup3 : ∀ l u, RL (lids.map (fun i => (μ0 ++ ν).getD i 0) ++ ν2) ok3 w' l u → RL ((μ0 ++ ν) ++ ν2) ok3 w' (subL [] (up lids σ.bx.length) l) u :=
    fun l u hl => RL_sub hm2 (fun i b h => by simp at h) (fun _ h => h) (fun _ _ => rfl) (fun g _ cs t h => ⟨cs, h, rfl⟩) hupg (fun id _ _ es sz t gb h => by simp at h) hl
  have hout : ∀ ok4 : Nat → Prop, (∀ k, ok k → ok4 k) → (∀ k, ok4 k → ok3 k) → Out ok0 μ0 w0 (ν ++ ν2) ok4 w' := by
    intro ok4 h5 h6
    have hO2 := hO.step (hF.mono hsubl)
    have hall : ∀ x, x ∈ μ0 ++ ν → w0.heap.size ≤ x ∨ x ∈ μ0 := fun x hx => by
      rcases List.mem_append.1 hx with hx | hx
      · exact .inr hx
      · exact hO.new x hx
    refine ⟨hO2.fw, fun k hk => h5 k (hO.ok1 k hk), fun k hk => ?_, fun x hx => ?_⟩
    · rcases h4 k (h6 k hk) with (hk | ⟨id, b', _, _, _, hk⟩) | hk | hk
      · exact hO.ok2 k hk
      · exact .inr (hall k (List.mem_of_getElem? hk))
      · exact .inr (.inl (Nat.le_trans hO.fw.size hk))
      · exact .inr (hall k (hsubl k hk))
    · rcases List.mem_append.1 hx with hx | hx
      · exact hO.new x hx
      · rcases hν2 x hx with hx | hx
        · exact .inl (Nat.le_trans hO.fw.size hx)
        · exact hall x (hsubl x hx)
  -- nothing is frozen behind the call
  have plain : ∀ ok4 : Nat → Prop, (∀ k, ok k → ok4 k) → (∀ k, ok4 k → ok3 k) → (∀ (i : Nat) b gb, i ∉ lids → σ.bx[i]? = some b → b ≠ .hid → (μ0 ++ ν)[i]? = some gb → ¬ ok4 gb) →
      (∀ (i : Nat) b l u, bx2[i]? = some b → (match b with | .var ls _ => l ∈ ls | .arr es _ _ => ∃ e, e ∈ es ∧ l ∈ e | _ => False) → RL (lids.map (fun i => (μ0 ++ ν).getD i 0) ++ ν2) ok3 w' l u → RL ((μ0 ++ ν) ++ ν2) ok4 w' (subL [] (up lids σ.bx.length) l) u) →
      (∀ l, leafIn l r → ∀ u, RL (lids.map (fun i => (μ0 ++ ν).getD i 0) ++ ν2) ok3 w' l u → RL ((μ0 ++ ν) ++ ν2) ok4 w' (subL [] (up lids σ.bx.length) l) u) →
      RelA ok0 μ0 w0 ν (σ.after lids σ.bx.length bx2) a w' (mapA (subL [] (up lids σ.bx.length)) r) cv := by
    intro ok4 h5 h6 h7 h8 h9
    have := Rl.back (σb := σ) (fz := fun l => l) hR hnd hnh' hm2 hν2 hF h6 rfl rfl (fun t => (mapA_id (fun l => rfl) _).symm)
      (fun l u hl => RL_weak ν2 (RL.congr (fun i g hg => hg) h5 hokF hshape l u hl))
      (fun i b _ hb => .inr ⟨b, hb, (mapB_id (fun l => rfl) b).symm⟩) h7 h8
    rw [List.append_assoc] at this
    exact ⟨ν2, ok4, hm, this, hout ok4 h5 h6, by rw [← List.append_assoc]; exact RA_map r cv h9 hr⟩
  have hv3 : ∀ (i : Nat) b gb, i ∉ lids → i ∉ vids → σ.bx[i]? = some b → b ≠ .hid → (μ0 ++ ν)[i]? = some gb → ¬ ok3 gb := by
    intro i b gb hi hiv hb hne hg hk
    rcases h4 gb hk with hk | hk | hk
    · exact hok2 i b gb hiv hb hne hg hk
    · exact Nat.lt_irrefl _ (Nat.lt_of_lt_of_le (hmm.there gb (List.mem_of_getElem? hg)) hk)
    · exact hlent gb hk i b hi hb hne hg
  unfold callK at hQ
  split at hQ
  · rename_i hv
    refine hK _ _ _ _ (plain ok3 (fun k hk => h3 k (.inl hk)) (fun _ h => h) (fun i b gb hi hb hne hg => hv3 i b gb hi (by rw [hv]; simp) hb hne hg) (fun i b l u _ _ hl => hup3 l u hl) (fun l _ u hl => hup3 l u hl)) hB hQ
  · rcases hQ with ⟨hc1, hc2, hQ⟩ | hQ
    · have hcb : ∀ (bs : List B), cleanBs bs → ∀ (i : Nat) b, bs[i]? = some b → cleanB b := by
        intro bs
        induction bs with
        | nil => intro _ i b h; simp at h
        | cons b0 bs ih =>
          intro hcl i b h
          cases i with
          | zero => obtain rfl : b0 = b := by simpa using h
                    exact hcl.1
          | succ i => exact ih hcl.2 i b h
      refine hK _ _ _ _ (plain (fun k => ok3 k ∧ ¬ ∃ id b, id ∈ vids ∧ σ.bx[id]? = some b ∧ b ≠ .hid ∧ (μ0 ++ ν)[id]? = some k) (fun k hk => ⟨h3 k (.inl hk), fun ⟨id, b, _, h1, h2, h5⟩ => hmm.live id b k h1 h5 h2 hk⟩) (fun _ h => h.1) (fun i b gb hi hb hne hg hk => ?_) (fun i b l u hb hl hr => ?_) (fun l hl u hr => clean_ok (clean_sub (hc1 l hl)) (hup3 l u hr))) hB hQ
      · by_cases hiv : i ∈ vids
        · exact hk.2 ⟨i, b, hiv, hb, hne, hg⟩
        · exact hv3 i b gb hi hiv hb hne hg hk.1
      · have hcl := hcb bx2 hc2 i b hb
        refine clean_ok (clean_sub ?_) (hup3 l u hr)
        cases b with
        | var ls t => exact List.all_eq_true.1 hcl l hl
        | arr es sz t => obtain ⟨e, h5, h6⟩ := hl; exact List.all_eq_true.1 (hcl e h5) l h6
        | _ => exact hl.elim
    · -- some rows are never written again
      refine hK _ _ _ _ ?_ hB hQ
      have hfz : ∀ l u, RL (μ0 ++ ν) ok w l u → RL ((μ0 ++ ν) ++ ν2) ok3 w' (subL σ.bx (outside vids) l) u := by
        intro l u hl
        refine RL_weak ν2 (RL_sub hmm (fun _ _ h => h) (fun k hk => h3 k (.inl hk)) hokF hshape (fun id k gb hr hg => ?_) (fun id _ hr es sz t gb hb hg => ?_) hl)
        · unfold outside at hr
          split at hr
          · cases hr
          · obtain rfl : id = k := by simpa using hr
            exact hg
        · unfold outside at hr
          split at hr
          · rename_i hid
            refine ⟨h3 gb (.inr ⟨id, _, hid, hb, by simp, hg⟩), hF.block gb (hmm.there gb (List.mem_of_getElem? hg)) (fun hx => hlent gb hx id _ (hvl id hid) hb (by simp) hg)⟩
          · cases hr
      have := Rl.back (σb := σ.freeze vids) (fz := subL σ.bx (outside vids)) hR hnd hnh' hm2 hν2 hF (fun _ h => h) rfl (by simp [St.freeze]) (fun t => lk_map (mapA (subL σ.bx (outside vids))) rfl t σ.tm) hfz
        (fun i b hi hb => by
          obtain ⟨b0, h5, h6⟩ := freeze_at hb
          split at h6
          · exact .inl h6
          · exact .inr ⟨b0, h5, h6⟩)
        (fun i b gb hi hb hne hg => by
          obtain ⟨b0, h5, h6⟩ := freeze_at hb
          split at h6
          · exact absurd h6 hne
          · rename_i hiv
            rw [h6] at hne
            exact hv3 i b0 gb hi hiv h5 (mapB_hid hne) hg)
        (fun i b l u _ _ hl => hup3 l u hl)
      rw [List.append_assoc] at this
      exact ⟨ν2, ok3, hm, this, hout ok3 (fun k hk => h3 k (.inl hk)) (fun _ h => h), by rw [← List.append_assoc]; exact RA_map r cv (fun l _ u hl => hup3 l u hl) hr⟩
end
end Go.Proofs.YtdedmhmomoejkaaDoor.V
