import Derived.Test.YtdedmhmomoejkaaDoorV12
namespace Go.Proofs.YtdedmhmomoejkaaDoor.V
open Go Go.RowKit Go.Proofs.YtdedmhmomoejkaaDoorW.PrintLast
set_option linter.unusedVariables false
set_option linter.unusedSimpArgs false
section
variable {P : Program} {T : Ty} {ok0 : Nat → Prop} {μ0 : List Nat} {w0 : World}
theorem putBack_len : ∀ (is : List Nat) (bs bx : List B), (putBack bx is bs).length = bx.length
  | [], bs, bx => by cases bs <;> rfl
  | i :: is, [], bx => rfl
  | i :: is, b :: bs, bx => by rw [putBack, putBack_len is bs, List.length_set]
theorem putBack_at : ∀ (is : List Nat) (bs bx : List B), is.Nodup → is.length = bs.length → (∀ i, i ∈ is → i < bx.length) → ∀ j, (putBack bx is bs)[j]? = match pos is j with | some q => bs[q]? | none => bx[j]?
  | [], [], bx, _, _, _, j => rfl
  | [], b :: bs, bx, _, h, _, _ => by simp at h
  | i :: is, [], bx, _, h, _, _ => by simp at h
  | i :: is, b :: bs, bx, hn, hl, hi, j => by
    rw [List.nodup_cons] at hn
    rw [putBack, putBack_at is bs (bx.set i b) hn.2 (by simpa using hl) (fun k hk => by rw [List.length_set]; exact hi k (List.mem_cons_of_mem _ hk)) j]
    simp only [pos]
    by_cases e : i = j
    · subst e
      rw [if_pos rfl]
      have : pos is i = none := by
        cases hq : pos is i with
        | none => rfl
        | some q => exact absurd (List.mem_of_getElem? (pos_at hq)) hn.1
      rw [this]
      simp [hi i List.mem_cons_self]
    · rw [if_neg e]
      cases hq : pos is j with
      | none => simp [List.getElem?_set, e]
      | some q => simp
/-- The memory behind a call: the callee's blocks, lent and new, among the caller's. -/
theorem Rl.back {μ ν2 lids : List Nat} {ok ok3 ok4 : Nat → Prop} {σ σb : St} {a : Act} {w w' : World} {fz : L → L} {bxc : List B} (h : Rl μ ok σ a w) (hl : lids.Nodup) (hnh : ∀ i, i ∈ lids → ∃ b, σ.bx[i]? = some b ∧ b ≠ .hid)
    (hm2 : Mem (lids.map (fun i => μ.getD i 0) ++ ν2) ok3 bxc w') (hν : ∀ g, g ∈ ν2 → w.heap.size ≤ g ∨ g ∈ lids.map fun i => μ.getD i 0) (hF : Fw (lids.map fun i => μ.getD i 0) w w')
    (h43 : ∀ k, ok4 k → ok3 k) (hnt : σb.nt = σ.nt) (hlen : σb.bx.length = σ.bx.length)
    (htm : ∀ t, lk σb.tm t = mapA fz (lk σ.tm t)) (hfz : ∀ l u, RL μ ok w l u → RL (μ ++ ν2) ok4 w' (fz l) u)
    (hbx : ∀ (i : Nat) b, i ∉ lids → σb.bx[i]? = some b → b = .hid ∨ ∃ b0, σ.bx[i]? = some b0 ∧ b = mapB fz b0)
    (hlive : ∀ (i : Nat) b g, i ∉ lids → σb.bx[i]? = some b → b ≠ .hid → μ[i]? = some g → ¬ ok4 g)
    (hup : ∀ (i : Nat) b l u, bxc[i]? = some b → (match b with | .var ls _ => l ∈ ls | .arr es _ _ => ∃ e, e ∈ es ∧ l ∈ e | _ => False) → RL (lids.map (fun i => μ.getD i 0) ++ ν2) ok3 w' l u → RL (μ ++ ν2) ok4 w' (subL [] (up lids σ.bx.length) l) u) :
    Rl (μ ++ ν2) ok4 (σb.after lids σ.bx.length bxc) a w' := by
  have hml := h.mem.len
  have hcl := hm2.len
  rw [List.length_append, List.length_map] at hcl
  have hll : ∀ i, i ∈ lids → i < σ.bx.length := fun i hi => let ⟨b, hb, _⟩ := hnh i hi; at_in hb
  -- blocks
  have hμc : ∀ (q : Nat), q < lids.length → ∀ i, lids[q]? = some i → (lids.map (fun i => μ.getD i 0) ++ ν2)[q]? = μ[i]? := by
    intro q hq i hi
    rw [List.getElem?_append_left (by rw [List.length_map]; exact hq), List.getElem?_map, hi, Option.map_some, List.getD_eq_getElem?_getD]
    have : i < μ.length := by rw [hml]; exact hll i (List.mem_of_getElem? hi)
    rw [List.getElem?_eq_getElem this]; rfl
  have hμn : ∀ (i : Nat), μ.length ≤ i → (μ ++ ν2)[i]? = (lids.map (fun i => μ.getD i 0) ++ ν2)[lids.length + (i - μ.length)]? := by
    intro i hi
    rw [List.getElem?_append_right hi, List.getElem?_append_right (by rw [List.length_map]; omega), List.length_map]
    congr 1; omega
  have htk : (bxc.take lids.length).length = lids.length := by rw [List.length_take]; omega
  have hpl : (putBack σb.bx lids ((bxc.take lids.length).map (mapB (subL [] (up lids σ.bx.length))))).length = μ.length := by rw [putBack_len, hlen, hml]
  have at_new : ∀ (i : Nat) b, (σb.after lids σ.bx.length bxc).bx[i]? = some b → (∃ q bc, bxc[q]? = some bc ∧ b = mapB (subL [] (up lids σ.bx.length)) bc ∧ (μ ++ ν2)[i]? = (lids.map (fun i => μ.getD i 0) ++ ν2)[q]? ∧ (q < lids.length → lids[q]? = some i) ∧ (lids.length ≤ q → i = μ.length + (q - lids.length))) ∨
      (i < μ.length ∧ i ∉ lids ∧ σb.bx[i]? = some b ∧ (μ ++ ν2)[i]? = μ[i]?) := by
    intro i b hb
    unfold St.after at hb
    simp only at hb
    by_cases hi : i < μ.length
    · rw [List.getElem?_append_left (by omega), putBack_at _ _ _ hl (by rw [List.length_map, htk]) (fun j hj => by rw [hlen]; exact hll j hj)] at hb
      have hmi : (μ ++ ν2)[i]? = μ[i]? := List.getElem?_append_left hi
      cases hq : pos lids i with
      | none =>
        rw [hq] at hb
        exact .inr ⟨hi, pos_none hq, hb, hmi⟩
      | some q =>
        rw [hq] at hb
        simp only at hb
        have hqi := pos_at hq
        have hql := at_in hqi
        rw [List.getElem?_map, List.getElem?_take, if_pos hql] at hb
        cases hbc : bxc[q]? with
        | none => rw [hbc] at hb; simp at hb
        | some bc =>
          rw [hbc] at hb
          exact .inl ⟨q, bc, hbc, by simpa using hb.symm, by rw [hmi, hμc q hql i hqi], fun _ => hqi, fun h => by omega⟩
    · rw [List.getElem?_append_right (by omega), hpl, List.getElem?_map, List.getElem?_drop] at hb
      cases hbc : bxc[lids.length + (i - μ.length)]? with
      | none => rw [hbc] at hb; simp at hb
      | some bc =>
        rw [hbc] at hb
        exact .inl ⟨_, bc, hbc, by simpa using hb.symm, hμn i (by omega), fun h => by omega, fun _ => by omega⟩
  -- a block of the caller that is not lent is none of the callee's
  have apart : ∀ (i : Nat) b g, i ∉ lids → σ.bx[i]? = some b → b ≠ .hid → μ[i]? = some g → ∀ q : Nat, (lids.map (fun i => μ.getD i 0) ++ ν2)[q]? ≠ some g := by
    intro i b g hi hb hne hg q hq
    have lent : ∀ x, x ∈ lids.map (fun i => μ.getD i 0) → x ≠ g := by
      intro x hx e
      subst e
      obtain ⟨j, hj, hjx⟩ := List.mem_map.1 hx
      obtain ⟨b', hb', hne'⟩ := hnh j hj
      have hjl : j < μ.length := by rw [hml]; exact at_in hb'
      have hjg : μ[j]? = some x := by
        rw [List.getD_eq_getElem?_getD, List.getElem?_eq_getElem hjl] at hjx
        rw [List.getElem?_eq_getElem hjl]
        simpa using hjx
      exact hi (h.mem.nd i j b b' x hb hb' hne hne' hg hjg ▸ hj)
    rcases List.mem_append.1 (List.mem_of_getElem? hq) with hx | hx
    · exact lent g hx rfl
    · rcases hν g hx with h2 | h2
      · exact Nat.lt_irrefl _ (Nat.lt_of_lt_of_le (h.mem.there g (List.mem_of_getElem? hg)) h2)
      · exact lent g h2 rfl
  have own : ∀ (i : Nat) b, i ∉ lids → σb.bx[i]? = some b → b ≠ .hid → ∃ b0, σ.bx[i]? = some b0 ∧ b0 ≠ .hid ∧ b = mapB fz b0 := by
    intro i b h1 h2 h3
    rcases hbx i b h1 h2 with h4 | ⟨b0, h4, h5⟩
    · exact absurd h4 h3
    · exact ⟨b0, h4, by rw [h5] at h3; exact mapB_hid h3, h5⟩
  refine ⟨⟨?_, ?_, ?_, ?_, fun k hk => hm2.small k (h43 k hk), ?_⟩, by show a.tmps.size = σb.nt; rw [hnt]; exact h.nt, fun t => ?_, h.df⟩
  · show _ = (putBack _ _ _ ++ _).length
    rw [List.length_append, List.length_append, hpl, List.length_map, List.length_drop]
    omega
  · intro i j b1 b2 g h1 h2 hn1 hn2 h3 h4
    rcases at_new i b1 h1 with ⟨q, bc, hq, rfl, hgi, hqi, hqi'⟩ | ⟨hi, hil, hb1, hgi⟩ <;> rcases at_new j b2 h2 with ⟨q', bc', hq', rfl, hgj, hqj, hqj'⟩ | ⟨hj, hjl, hb2, hgj⟩
    · rw [hgi] at h3
      rw [hgj] at h4
      have he := hm2.nd q q' bc bc' g hq hq' (mapB_hid hn1) (mapB_hid hn2) h3 h4
      subst he
      by_cases hlt : q < lids.length
      · have e1 := hqi hlt
        rw [hqj hlt] at e1
        simpa using e1.symm
      · rw [hqi' (by omega), hqj' (by omega)]
    · rw [hgi] at h3
      rw [hgj] at h4
      obtain ⟨b0, h5, h6, _⟩ := own j b2 hjl hb2 hn2
      exact absurd h3 (apart j b0 g hjl h5 h6 h4 q)
    · rw [hgi] at h3
      rw [hgj] at h4
      obtain ⟨b0, h5, h6, _⟩ := own i b1 hil hb1 hn1
      exact absurd h4 (apart i b0 g hil h5 h6 h3 q')
    · rw [hgi] at h3
      rw [hgj] at h4
      obtain ⟨b0, h5, h6, _⟩ := own i b1 hil hb1 hn1
      obtain ⟨b0', h5', h6', _⟩ := own j b2 hjl hb2 hn2
      exact h.mem.nd i j b0 b0' g h5 h5' h6 h6' h3 h4
  · intro i b g h1 h2 hne hk
    rcases at_new i b h1 with ⟨q, bc, hq, rfl, hgi, _, _⟩ | ⟨hi, hil, hb1, hgi⟩
    · rw [hgi] at h2
      exact hm2.live q bc g hq h2 (mapB_hid hne) (h43 g hk)
    · rw [hgi] at h2
      exact hlive i b g hil hb1 hne h2 hk
  · intro g hg
    rcases List.mem_append.1 hg with hg | hg
    · exact Nat.lt_of_lt_of_le (h.mem.there g hg) hF.size
    · exact hm2.there g (List.mem_append_right _ hg)
  · intro i b g h1 h2
    rcases at_new i b h1 with ⟨q, bc, hq, rfl, hgi, _, _⟩ | ⟨hi, hil, hb1, hgi⟩
    · rw [hgi] at h2
      have hb := hm2.box q bc g hq h2
      cases bc with
      | var ls t =>
        obtain ⟨cs, h5, h6⟩ := hb
        exact ⟨cs, h5, RLs_map (fun l hl u hr => hup q _ l u hq hl hr) h6⟩
      | arr es sz t =>
        obtain ⟨cs, cap, h5, h6, h7, h8, h9⟩ := hb
        refine ⟨cs, cap, h5, h6, by rw [List.length_map]; exact h7, h8, fun i e he => ?_⟩
        rw [List.getElem?_map] at he
        cases hq2 : es[i]? with
        | none => rw [hq2] at he; simp at he
        | some e0 =>
          rw [hq2] at he
          obtain rfl : e0.map (subL [] (up lids σ.bx.length)) = e := by simpa using he
          obtain ⟨h10, h11⟩ := h9 i e0 hq2
          refine ⟨by rw [List.length_map]; exact h10, fun j x hx => ?_⟩
          rw [List.getElem?_map] at hx
          cases hr : e0[j]? with
          | none => rw [hr] at hx; simp at hx
          | some y =>
            rw [hr] at hx
            obtain rfl : subL [] (up lids σ.bx.length) y = x := by simpa using hx
            obtain ⟨v, h12, h13⟩ := h11 j y hr
            exact ⟨v, h12, hup q _ y v hq ⟨e0, List.mem_of_getElem? hq2, List.mem_of_getElem? hr⟩ h13⟩
      | iter s p => exact hb
      | hid => trivial
    · rw [hgi] at h2
      by_cases hne : b = .hid
      · subst hne; trivial
      obtain ⟨b0, h5, h6, rfl⟩ := own i b hil hb1 hne
      refine BoxR_map b0 hfz (fun _ => hF.block g (h.mem.there g (List.mem_of_getElem? h2)) (fun hx => ?_)) (h.mem.box i b0 g h5 h2)
      obtain ⟨q, hq⟩ := List.getElem?_of_mem hx
      exact apart i b0 g hil h5 h6 h2 q (by rw [List.getElem?_append_left (at_in hq)]; exact hq)
  · show RA _ (lk σb.tm t) _
    rw [htm]
    exact RA_map _ _ (fun l _ u hl => hfz l u hl) (h.tm t)
end
end Go.Proofs.YtdedmhmomoejkaaDoor.V
