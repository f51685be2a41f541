import Derived.Test.YtdedmhmomoejkaaDoorV10
namespace Go.Proofs.YtdedmhmomoejkaaDoor.V
open Go Go.RowKit Go.Proofs.YtdedmhmomoejkaaDoorW.PrintLast
set_option linter.unusedVariables false
set_option linter.unusedSimpArgs false
section
variable {P : Program} {T : Ty} {ok0 : Nat → Prop} {μ0 ν : List Nat} {w0 : World}
/-- A row that goes on under a new number: in its block, or in a new one. -/
theorem RelX.move {σ : St} {a : Act} {w w' : World} (h : RelX ok0 μ0 w0 ν σ a w) {id : Nat} {b0 b : B} {g : Nat} (h0 : σ.bx[id]? = some b0) (hn : b0 ≠ .hid) (hF : Fw [g] w w') (hw : ∀ k, k < w.heap.size → k ≠ g → w'.heap[k]? = w.heap[k]?) (hgs : g < w'.heap.size)
    (hg : g = w.heap.size ∨ ∀ μ ok, Rl μ ok σ a w → μ[id]? = some g) (r : A) (v : Value)
    (hb : ∀ μ ok, Rl μ ok σ a w → (∀ l u, RL μ ok w l u → RL (μ ++ [g]) ok w' l u) → BoxR (μ ++ [g]) ok w' g b ∧ ((μ ++ [g])[σ.bx.length]? = some g → RA (RL (μ ++ [g]) ok w') r v)) :
    RelA ok0 μ0 w0 ν { σ with bx := σ.bx.set id .hid ++ [b] } a w' r v := by
  obtain ⟨ok, h1, hR, hO⟩ := h
  have hgok : ¬ ok g := by
    rcases hg with rfl | hg
    · exact fun hk => Nat.lt_irrefl _ (hR.mem.small _ hk)
    · exact hR.mem.live id b0 g h0 (hg _ _ hR) hn
  have hokw : ∀ k, ok k → w'.heap[k]? = w.heap[k]? := fun k hk => hw k (hR.mem.small k hk) (fun e => hgok (e ▸ hk))
  have hRL1 : ∀ l u, RL (μ0 ++ ν) ok w l u → RL (μ0 ++ ν) ok w' l u := RL.congr (fun i g hg => hg) (fun _ h => h) hokw (fun g' hg' cs t hc => hF.kept g' (hR.mem.there g' hg') cs t hc)
  have hRL : ∀ l u, RL (μ0 ++ ν) ok w l u → RL ((μ0 ++ ν) ++ [g]) ok w' l u := fun l u hl => RL_weak _ (hRL1 l u hl)
  have hid : ∀ (j : Nat) b', (σ.bx.set id .hid)[j]? = some b' → b' ≠ .hid → j ≠ id ∧ σ.bx[j]? = some b' := by
    intro j b' h2 h3
    rw [List.getElem?_set] at h2
    split at h2
    · split at h2
      · obtain rfl : B.hid = b' := by simpa using h2
        exact absurd rfl h3
      · cases h2
    · rename_i e
      exact ⟨fun e' => e e'.symm, h2⟩
  have hnot : ∀ (j : Nat) b', (σ.bx.set id .hid)[j]? = some b' → b' ≠ .hid → (μ0 ++ ν)[j]? ≠ some g := by
    intro j b' h2 h3 h4
    obtain ⟨h5, h6⟩ := hid j b' h2 h3
    rcases hg with rfl | hg
    · exact Nat.lt_irrefl _ (hR.mem.there _ (List.mem_of_getElem? h4))
    · exact h5 (hR.mem.nd j id b' b0 g h6 h0 h3 hn h4 (hg _ _ hR))
  have hm1 := Mem_hide hR.mem id
  have hm2 : Mem (μ0 ++ ν) ok (σ.bx.set id .hid) w' := ⟨hm1.len, hm1.nd, hm1.live, fun x hx => Nat.lt_of_lt_of_le (hm1.there x hx) hF.size, fun k hk => Nat.lt_of_lt_of_le (hm1.small k hk) hF.size, fun j b' g' h2 h3 => by
    by_cases hh : b' = .hid
    · subst hh; trivial
    · exact BoxR_congr hRL1 (hw g' (hR.mem.there g' (List.mem_of_getElem? h3)) (fun e => hnot j b' h2 hh (e ▸ h3))) b' (hm1.box j b' g' h2 h3)⟩
  have hm3 := Mem_add hm2 hnot hgok hgs (hb _ _ hR hRL).1
  have hat : ((μ0 ++ ν) ++ [g])[σ.bx.length]? = some g := by
    rw [List.getElem?_append_right (by rw [hR.mem.len]; exact Nat.le_refl _), hR.mem.len]
    simp
  have hO2 : Out ok0 μ0 w0 (ν ++ [g]) ok w' := by
    have h3 : w0.heap.size ≤ g ∨ g ∈ μ0 := by
      rcases hg with rfl | hg
      · exact .inl hO.fw.size
      · rcases List.mem_append.1 (List.mem_of_getElem? (hg _ _ hR)) with h | h
        · exact .inr h
        · exact hO.new g h
    refine Out.add ⟨hO.fw.step hF (fun x hx => ?_), hO.ok1, hO.ok2, hO.new⟩ h3
    rw [List.mem_singleton] at hx
    subst hx
    exact h3.symm
  refine ⟨[g], ok, h1, ?_, hO2, ?_⟩
  · rw [← List.append_assoc]
    exact ⟨hm3, hR.nt, fun t => RA_mono hRL _ _ (hR.tm t), hR.df⟩
  · rw [← List.append_assoc]
    exact (hb _ _ hR hRL).2 hat
theorem append_ok (hT : ∀ t i, T t = some i → TyOK P t i) {σ : St} {a : Act} {w : World} {t tx ty : TypeId} {s x : Operand} {k : A → St → Prop} (h : RelX ok0 μ0 w0 ν σ a w) (he : eAppend T σ t tx (strip (σ.ev s)) (strip (σ.ev x)) k) :
    ∃ r σ' v w', (Builtin.append_ #[t, tx] ty #[a.eval s, a.eval x]).run P w = .ok v w' ∧ RelA ok0 μ0 w0 ν σ' a w' r v ∧ k r σ' := by
  obtain ⟨ok, _, hR, _⟩ := _root_.id h
  have hs0 := SR.of (ev_ok hR s)
  have hx0 := SR.of (ev_ok hR x)
  unfold eAppend at he
  split at he
  · rename_i e _ _ _ hTs
    have hu := slice_under hT hTs
    split at he
    · rename_i g sl g' xl heq1 heq2
      rw [heq1] at hs0
      rw [heq2] at hx0
      split at he
      · rename_i sz ns hrow
        have src : ∀ μ ok2, Rl μ ok2 σ a w → g' = true → 0 < sz → srcOK T tx xl = true → allCell ns → ∃ news, Src P sz tx (a.eval x) ns.length news w ∧ ∀ (i : Nat) e, ns[i]? = some e → e.length = sz ∧ ∀ (j : Nat) x, e[j]? = some x → ∃ v, news[i * sz + j]? = some v ∧ RL μ ok2 w x v := by
          intro μ ok2 hR2 h1 h2 h3 h4
          have hx2 := SR.of (ev_ok hR2 x)
          rw [heq2] at hx2
          exact src_ok hT hR2.mem (hx2 h1) hrow h2 h3 h4
        have uniq : ∀ {n1 n2 : List Value}, Src P sz tx (a.eval x) ns.length n1 w → Src P sz tx (a.eval x) ns.length n2 w → n1 = n2 := by
          intro n1 n2 s1 s2
          have h1 := s1.cells
          rw [s2.cells] at h1
          simp only [Result.ok.injEq, and_true] at h1
          exact (List.toArray_inj h1).symm
        split at he
        · obtain ⟨hcell, hsrc, h1, h2, h3, h4, h5, h6, h7, h8, h9⟩ := he
          obtain ⟨i, hi, hsz⟩ := known_some h3
          have hby : T.bytes e = i.bytes := by unfold Ty.bytes; rw [hi]
          rw [hby] at h7
          obtain ⟨j, z, e1, e2, e3, e4, e5⟩ := (hT _ _ hi).info
          have hsv : a.eval s = .slice none 0 0 := hs0 h1
          obtain ⟨news, hS, _⟩ := src _ _ hR h2 h5 hsrc hcell
          have hjs : j.size = sz := by rw [e2, ← hsz, h4]
          have hmx : ((0 + ns.length : Nat) : Int) ≤ 9223372036854775807 := by simp only [maxLen] at h8; omega
          have hr := run_append_grow_src (P := P) w t tx ty e j z hu e1 e4 none 0 0 [] (run_firstCells_none w.drew j.size 0 0 0) (a.eval x) ns.length news (by rw [hjs]; exact hS) (by omega) hmx (by rw [e3, nextslicecap_zero (by omega), Nat.zero_add]; omega)
          simp only [Nat.zero_add] at hr
          have hge := grownCap_ge w ns.length 0 e
          have hle := grownCap_le_maxLen w ns.length 0 e (by omega)
          have hzz : z.cells.size = sz := by
            have h11 := (hT _ _ hi).zl
            rw [← e5, Array.length_toList] at h11
            omega
          have hca : (([] : List Value) ++ news).toArray ++ Builtin.zeroCells z.cells (grownCap w ns.length 0 e - ns.length) = ([] ++ news ++ (Builtin.zeroCells z.cells (grownCap w ns.length 0 e - ns.length)).toList).toArray := by
            apply Array.ext'; simp
          rw [hca] at hr
          generalize hnc : ([] ++ news ++ (Builtin.zeroCells z.cells (grownCap w ns.length 0 e - ns.length)).toList).toArray = ncs at hr
          have hnl := hS.newsLen
          have hcsz : ncs.size = grownCap w ns.length 0 e * sz := by
            rw [← hnc]
            simp only [List.nil_append, List.size_toArray, List.length_append, hnl, Array.length_toList, size_zeroCells, hzz, ← Nat.add_mul]
            congr 1
            omega
          have hB' := below_drew_alloc w (.cells ncs e)
          refine ⟨_, _, _, _, by rw [hsv]; exact hr, h.new hB' (by simp [World.size_alloc]) (.arr ns sz e) (.one (.own σ.bx.length sz 0 ns.length)) _ (fun μ ok2 hR2 hRL => ?_), h9⟩
          obtain ⟨news2, hS2, hn2⟩ := src _ _ hR2 h2 h5 hsrc hcell
          obtain rfl := uniq hS hS2
          refine ⟨⟨ncs, _, drew_alloc_heap w _, hcsz, by omega, hle, ?_⟩, fun hid => ⟨w.heap.size, _, ncs, e, hid, by rw [Nat.zero_mul], by omega, drew_alloc_heap w _, by rw [hcsz, Nat.zero_add]⟩⟩
          have := arr_cells (R := RL (μ ++ [w.heap.size]) ok2 (w.drew.alloc (.cells ncs e))) (es := []) (ns := ns) (n := 0) (m := ns.length) (sz := sz) (olds := []) (news := news) (rest := (Builtin.zeroCells z.cells (grownCap w ns.length 0 e - ns.length)).toList) (Nat.zero_le _) rfl (by simp) hnl (fun i e hi => by omega)
            (fun i e he => ⟨(hn2 i e he).1, fun j x hj => let ⟨v, h1, h2⟩ := (hn2 i e he).2 j x hj; ⟨v, h1, hRL _ _ h2⟩⟩)
          rw [hnc] at this
          simpa using this
        · rename_i id sz' n
          split at he
          · rename_i es sz'' t' hb
            obtain ⟨hcell, hsrc, h1, h2, h3, h4, h5, hq1, hq2, hq3, hq4, h7, h8, h9⟩ := he
            subst hq1 hq2 hq3
            obtain ⟨i, hi, hsz⟩ := known_some h3
            have hby : T.bytes t' = i.bytes := by unfold Ty.bytes; rw [hi]
            rw [hby] at h7
            obtain ⟨j, z, e1, e2, e3, e4, e5⟩ := (hT _ _ hi).info
            obtain ⟨gb, cap, cs, tt, hg, hsv, hncap, hh, hcs⟩ := hs0 h1
            obtain ⟨cs2, cap2, hh2, hcs2, hec, hcm, _⟩ := hR.mem.box id _ gb hb hg
            rw [hh] at hh2
            simp only [Option.some.injEq, Obj.cells.injEq] at hh2
            obtain ⟨rfl, rfl, _⟩ := hh2
            rw [Nat.zero_mul] at hsv
            rw [Nat.zero_add] at hcs
            have hcc : cap2 = cap := Nat.eq_of_mul_eq_mul_right h5 (hcs2.symm.trans hcs)
            subst hcc
            obtain ⟨news, hS, _⟩ := src _ _ hR h2 h5 hsrc hcell
            have hnl := hS.newsLen
            have hjs : j.size = sz'' := by rw [e2, ← hsz, h4]
            have hmx : ((n + ns.length : Nat) : Int) ≤ 9223372036854775807 := by simp only [maxLen] at h8; omega
            have hzz : z.cells.size = sz'' := by
              have h11 := (hT _ _ hi).zl
              rw [← e5, Array.length_toList] at h11
              omega
            have hnc2 : n * sz'' ≤ cap2 * sz'' := Nat.mul_le_mul_right _ hncap
            have hol : (cs.toList.take (n * sz'')).length = n * sz'' := by
              rw [List.length_take, Array.length_toList]
              omega
            have box : ∀ μ ok2, Rl μ ok2 σ a w → μ[id]? = some gb ∧ ∀ (i : Nat) e, i < n → es[i]? = some e → e.length = sz'' ∧ ∀ (j : Nat) x, e[j]? = some x → ∃ v, (cs.toList.take (n * sz''))[i * sz'' + j]? = some v ∧ RL μ ok2 w x v := by
              intro μ ok2 hR2
              have hs2 := SR.of (ev_ok hR2 s)
              rw [heq1] at hs2
              obtain ⟨gb2, cap3, cs3, tt3, hg3, hsv3, _⟩ := hs2 h1
              rw [hsv] at hsv3
              simp only [Value.slice.injEq, Option.some.injEq, Addr.mk.injEq] at hsv3
              obtain rfl := hsv3.1.1
              obtain ⟨cs4, cap4, hh4, _, _, _, hel⟩ := hR2.mem.box id _ gb hb hg3
              rw [hh] at hh4
              simp only [Option.some.injEq, Obj.cells.injEq] at hh4
              obtain ⟨rfl, _⟩ := hh4
              refine ⟨hg3, fun q el hqn hq => ?_⟩
              obtain ⟨h11, h12⟩ := hel q el hq
              refine ⟨h11, fun jj x hj => ?_⟩
              obtain ⟨v, h13, h14⟩ := h12 jj x hj
              refine ⟨v, ?_, h14⟩
              have hjl : jj < sz'' := by rw [← h11]; exact at_in hj
              have : (q + 1) * sz'' ≤ n * sz'' := Nat.mul_le_mul_right _ hqn
              rw [Nat.add_mul] at this
              rw [List.getElem?_take, if_pos (by omega)]
              simpa using h13
            by_cases hroom : n + ns.length ≤ cap2
            · have hfit : n * j.size + news.length ≤ cs.size := by
                rw [hnl, hjs, hcs, ← Nat.add_mul]
                exact Nat.mul_le_mul_right _ hroom
              have hr := run_append_room' (P := P) (w := w) t tx ty tt j hu e1 gb n cap2 cs hh (a.eval x) ns.length news (by rw [hjs]; exact hS) hroom hfit
              rw [hjs] at hr hfit
              have hszn : (cs.toList.take (n * sz'') ++ news ++ cs.toList.drop (n * sz'' + news.length)).toArray.size = cs.size := by
                simp only [List.size_toArray, List.length_append, hol, List.length_drop, Array.length_toList]
                omega
              generalize hncs : (cs.toList.take (n * sz'') ++ news ++ cs.toList.drop (n * sz'' + news.length)).toArray = ncs at hr hszn
              have hheap := setRow_heap w gb cs ncs tt (0, 0) hh
              refine ⟨.one (.own σ.bx.length sz'' 0 (n + ns.length)), _, _, _, by rw [hsv]; exact hr, h.move (w' := w.setRow gb ncs) hb (by simp) (Fw.setRow (List.mem_singleton.2 rfl) hh hszn) (fun k _ hk => setRow_other w gb k _ hk) (by rw [setRow_size]; exact at_in' hh) (.inr fun μ ok2 hR2 => (box μ ok2 hR2).1) _ _ (fun μ ok2 hR2 hRL => ?_), h9⟩
              obtain ⟨news2, hS2, hn2⟩ := src _ _ hR2 h2 h5 hsrc hcell
              obtain rfl := uniq hS hS2
              refine ⟨⟨ncs, cap2, hheap, by rw [hszn]; exact hcs, by rw [List.length_append, List.length_take]; omega, hcm, ?_⟩, fun hid => ⟨gb, cap2, ncs, tt, hid, by rw [Nat.zero_mul], hroom, hheap, by rw [hszn, Nat.zero_add]; exact hcs⟩⟩
              rw [← hncs] at hRL ⊢
              exact arr_cells hq4 rfl hol hnl (fun i e hin he => ⟨((box μ ok2 hR2).2 i e hin he).1, fun j x hx => let ⟨v, h1, h2⟩ := ((box μ ok2 hR2).2 i e hin he).2 j x hx; ⟨v, h1, hRL _ _ h2⟩⟩) (fun i e he => ⟨(hn2 i e he).1, fun j x hj => let ⟨v, h1, h2⟩ := (hn2 i e he).2 j x hj; ⟨v, h1, hRL _ _ h2⟩⟩)
            · have hge := grownCap_ge w (n + ns.length) cap2 tt
              have hle := grownCap_le_maxLen w (n + ns.length) cap2 tt h8
              have hold1 : ∀ (q : Nat) v, (cs.toList.take (n * sz''))[q]? = some v → w.cell? ((⟨gb, 0, none⟩ : Addr).add q) = some v := by
                intro q v hq
                rw [List.getElem?_take] at hq
                split at hq
                · rw [add_lit, Nat.zero_add]
                  simp only [World.cell?, hh]
                  simpa using hq
                · cases hq
              have hr := run_append_grow_src (P := P) w t tx ty tt j z hu e1 e4 (some ⟨gb, 0, none⟩) n cap2 (cs.toList.take (n * sz'')) (run_firstCells_some w.drew j.size n ⟨gb, 0, none⟩ n cap2 _ (by rw [hol, hjs]) (by simpa using hold1)) (a.eval x) ns.length news (by rw [hjs]; exact hS) (by omega) hmx (growslice_fits (by omega) (by rw [e3]; exact h7))
              have hca : (cs.toList.take (n * sz'') ++ news).toArray ++ Builtin.zeroCells z.cells (grownCap w (n + ns.length) cap2 tt - (n + ns.length)) = (cs.toList.take (n * sz'') ++ news ++ (Builtin.zeroCells z.cells (grownCap w (n + ns.length) cap2 tt - (n + ns.length))).toList).toArray := by
                apply Array.ext'; simp
              rw [hca] at hr
              generalize hnc : (cs.toList.take (n * sz'') ++ news ++ (Builtin.zeroCells z.cells (grownCap w (n + ns.length) cap2 tt - (n + ns.length))).toList).toArray = ncs at hr
              have hcsz : ncs.size = grownCap w (n + ns.length) cap2 tt * sz'' := by
                rw [← hnc]
                simp only [List.size_toArray, List.length_append, hol, hnl, Array.length_toList, size_zeroCells, hzz, ← Nat.add_mul]
                congr 1
                omega
              have hB' := below_drew_alloc w (.cells ncs tt)
              refine ⟨.one (.own σ.bx.length sz'' 0 (n + ns.length)), _, _, _, by rw [hsv]; exact hr, h.move (w' := w.drew.alloc (.cells ncs tt)) (g := w.heap.size) hb (by simp) (Fw.of _ hB') (fun k hk _ => hB'.block k hk) (by simp [World.size_alloc]) (.inl rfl) _ _ (fun μ ok2 hR2 hRL => ?_), h9⟩
              obtain ⟨news2, hS2, hn2⟩ := src _ _ hR2 h2 h5 hsrc hcell
              obtain rfl := uniq hS hS2
              refine ⟨⟨ncs, _, drew_alloc_heap w _, hcsz, by rw [List.length_append, List.length_take]; omega, hle, ?_⟩, fun hid => ⟨w.heap.size, _, ncs, tt, hid, by rw [Nat.zero_mul], hge, drew_alloc_heap w _, by rw [hcsz, Nat.zero_add]⟩⟩
              rw [← hnc] at hRL ⊢
              exact arr_cells hq4 rfl hol hnl (fun i e hin he => ⟨((box μ ok2 hR2).2 i e hin he).1, fun j x hx => let ⟨v, h1, h2⟩ := ((box μ ok2 hR2).2 i e hin he).2 j x hx; ⟨v, h1, hRL _ _ h2⟩⟩) (fun i e he => ⟨(hn2 i e he).1, fun j x hj => let ⟨v, h1, h2⟩ := (hn2 i e he).2 j x hj; ⟨v, h1, hRL _ _ h2⟩⟩)
          · exact he.elim
        · exact he.elim
      · exact he.elim
    · exact he.elim
  · exact he.elim
end
end Go.Proofs.YtdedmhmomoejkaaDoor.V
