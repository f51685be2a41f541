import Derived.Test.YtdedmhmomoejkaaDoorV3
namespace Go.Proofs.YtdedmhmomoejkaaDoor.V
open Go Go.RowKit Go.Proofs.YtdedmhmomoejkaaDoorW.PrintLast
set_option linter.unusedVariables false
set_option linter.unusedSimpArgs false
section
variable {P : Program} {T : Ty} {w : World} {μ : List Nat} {ok : Nat → Prop}
theorem run_fieldPlace {ft : TypeId} {i : TI} (h : TyOK P ft i) (hp : 0 < i.size) (a : Addr) (f : Field) (hf : f.type = ft) : (fieldPlace a f).run P w = .ok (a.add f.offset) w := by
  subst hf
  have : ¬ i.size = 0 := by omega
  simp [fieldPlace, run_size h, this]
theorem pFieldAddr_ok (hT : ∀ t i, T t = some i → TyOK P t i) {s : TypeId} {x : Bool × A} {k : Nat} {u : Value} (hx : SR (RL μ ok w) x u) (h : (pFieldAddr T s x k).1) : ∃ r, (∀ w' : World, True → (Instr.fieldAt s u k).run P w' = .ok r w') ∧ RA (RL μ ok w) (pFieldAddr T s x k).2 r := by
  unfold pFieldAddr at h ⊢
  split at h
  · rename_i fs _ sz by_ z hTs
    obtain ⟨fa, hu, hfs⟩ := struct_under hT hTs
    split at h
    · rename_i o ft hk
      obtain ⟨f, hf1, hf2, hf3⟩ := fields_at hfs hk
      have go : ∀ a : Addr, u = .pointer (some a) → 0 < T.size ft → ∀ w' : World, True → (Instr.fieldAt s u k).run P w' = .ok (.pointer (some (a.add o))) w' := by
        intro a hua hp w' _
        obtain ⟨i, hi, hs⟩ := size_some hp
        subst hua
        simp only [Instr.fieldAt, Sem.run_bind, run_under hu, Result.andThen_ok, hf1, Instr.sureAddr, Sem.run_pure, run_fieldPlace (hT _ _ hi) (by omega) a f hf3, hf2]
      split at h
      · obtain ⟨h1, h2⟩ := h
        obtain ⟨b, hg, hub⟩ := hx h1
        refine ⟨_, go _ hub h2, b, hg, ?_⟩
        rw [add_lit]
      · obtain ⟨h1, h2⟩ := h
        obtain ⟨b, hg, hub⟩ := hx h1
        refine ⟨_, go _ hub h2, b, hg, ?_⟩
        rw [add_lit, Nat.add_assoc]
      · obtain ⟨h1, h2⟩ := h
        obtain ⟨b, hub, hb, hall⟩ := hx h1
        refine ⟨_, go _ hub h2, b.add o, rfl, by rw [add_block]; exact hb, fun j hj => ?_⟩
        obtain ⟨v, hv, hr⟩ := hall (o + j) (by omega)
        exact ⟨v, by rw [add_add]; exact hv, hr⟩
      · exact h.elim
    · exact h.elim
  · exact h.elim
theorem pField_ok (hT : ∀ t i, T t = some i → TyOK P t i) {s : TypeId} {x : Bool × A} {k : Nat} {u : Value} (hx : SR (RL μ ok w) x u) (h : (pField T s x k).1) : ∃ r, (∀ w' : World, True → (Instr.field s u k).run P w' = .ok r w') ∧ RA (RL μ ok w) (pField T s x k).2 r := by
  unfold pField at h ⊢
  split at h
  · rename_i fs _ sz by_ z hTs
    obtain ⟨fa, hu, hfs⟩ := struct_under hT hTs
    split at h
    · rename_i o ft hk
      obtain ⟨f, hf1, hf2, hf3⟩ := fields_at hfs hk
      split at h
      · rename_i g ls
        obtain ⟨h1, h2, h3, h4⟩ := h
        obtain ⟨i, hi, hs⟩ := known_some h2
        obtain ⟨cs, hua, hr⟩ := hx h1
        subst hua
        subst hf2 hf3
        have hl : f.offset + i.size ≤ cs.size := by
          have h8 := hr.1
          have h9 : cs.toList.length = cs.size := Array.length_toList
          omega
        refine ⟨mkV i ((cs.toList.drop f.offset).take i.size), fun w' _ => ?_, ?_⟩
        · simp only [Instr.field, Sem.run_bind, run_under hu, Result.andThen_ok, hf1, asAgg, Sem.run_pure, run_part (hT _ _ hi) (by omega) cs f.offset hl]
        · rw [← hs]
          refine mk_ok hi ((hr.drop _).take _) ?_
          rw [List.length_take, List.length_drop, Array.length_toList]; omega
      · exact h.elim
    · exact h.elim
  · exact h.elim
theorem pIndexAddr_ok (hT : ∀ t i, T t = some i → TyOK P t i) {t : TypeId} {x y : Bool × A} {u v : Value} (hx : SR (RL μ ok w) x u) (hy : SR (RL μ ok w) y v) (h : (pIndexAddr T t x y).1) : ∃ r, (∀ w' : World, True → (Instr.indexAt t u v).run P w' = .ok r w') ∧ RA (RL μ ok w) (pIndexAddr T t x y).2 r := by
  unfold pIndexAddr at h ⊢
  split at h
  · rename_i e sz0 by_ z hTs
    have hu := slice_under hT hTs
    have go : ∀ (a : Addr) (n cap : Nat) (kk : IntKind) (k : Int) (i : TI), T e = some i → u = .slice (some a) n cap → v = .int kk k → 0 ≤ k → k < n → ∀ w' : World, True → (Instr.indexAt t u v).run P w' = .ok (.pointer (some (a.add (k.toNat * i.size)))) w' := by
      intro a n cap kk k i hi h1 h2 h3 h4 w' _
      subst h1 h2
      simp only [Instr.indexAt, asIntOf, Sem.run_bind, Sem.run_pure, run_under hu, Result.andThen_ok]
      simp [h3, h4, run_size (hT _ _ hi)]
    split at h
    · rename_i g n sz f g' kk k
      obtain ⟨h1, h2, h3, h4, h5, h6, h7⟩ := h
      obtain ⟨i, hi, hs⟩ := known_some h3
      obtain ⟨a, cap, hua, hn, hc⟩ := hx h1
      have hv : v = _ := hy h2
      obtain ⟨b, v0, hb, ho, _, _⟩ := hc k.toNat (by omega) 0 h5
      subst hb
      refine ⟨_, go b n cap kk k i hi hua hv h6 h7, b.add (k.toNat * i.size), rfl, by rw [add_block]; exact ho, fun j hj => ?_⟩
      obtain ⟨b', v', hb', _, hc', hr⟩ := hc k.toNat (by omega) j hj
      obtain rfl : b = b' := by injection hb'
      exact ⟨v', by rw [add_add, ← hs, h4]; exact hc', hr⟩
    · rename_i g id sz o n g' kk k
      obtain ⟨h1, h2, h3, h4, h6, h7⟩ := h
      obtain ⟨i, hi, hs⟩ := known_some h3
      obtain ⟨b, cap, cs, t', hg, hua, hn, _, _⟩ := hx h1
      have hv : v = _ := hy h2
      refine ⟨_, go _ n cap kk k i hi hua hv h6 h7, b, hg, ?_⟩
      rw [add_lit, ← hs, h4, Nat.add_mul, Nat.add_zero]
    · exact h.elim
  · exact h.elim
theorem pIndex_ok (hT : ∀ t i, T t = some i → TyOK P t i) {t : TypeId} {x y : Bool × A} {u v : Value} (hx : SR (RL μ ok w) x u) (hy : SR (RL μ ok w) y v) (h : (pIndex T t x y).1) : ∃ r, (∀ w' : World, True → (Instr.index t u v).run P w' = .ok r w') ∧ RA (RL μ ok w) (pIndex T t x y).2 r := by
  unfold pIndex at h ⊢
  split at h
  · rename_i sz0 by_ z hTs
    have hu := prim_under hT hTs
    split at h
    · rename_i g s g' kk k
      obtain ⟨h1, h2, h3, h4⟩ := h
      have e1 : u = _ := hx h1
      have e2 : v = _ := hy h2
      subst e1 e2
      refine ⟨_, fun w' _ => ?_, rfl⟩
      have hlt : k.toNat < s.size := by omega
      have hs : s[k.toNat]? = some (s.data.getD k.toNat 0) := by
        rw [getElem?_pos s k.toNat hlt]
        congr 1
        have hd : k.toNat < s.data.size := hlt
        rw [Array.getD_eq_getD_getElem?, Array.getElem?_eq_getElem hd]
        rfl
      simp only [Instr.index, asIntOf, Sem.run_bind, Sem.run_pure, run_under hu, Result.andThen_ok, if_pos h3, hs]
    · exact h.elim
  · exact h.elim
theorem pExtract_ok {x : Bool × A} {i : Nat} {u : Value} (hx : SR (RL μ ok w) x u) (h : (pExtract x i).1) : ∃ r, (∀ w' : World, True → (Instr.extract u i).run P w' = .ok r w') ∧ RA (RL μ ok w) (pExtract x i).2 r := by
  unfold pExtract at h ⊢
  split at h
  · rename_i g xs
    have key : ∀ p, xs[i]? = some p → g = true → ∃ v, (∀ w' : World, True → (Instr.extract u i).run P w' = .ok v w') ∧ RV (RL μ ok w) p v := by
      intro p hp hg
      obtain ⟨vs, hu, _, hall⟩ := hx hg
      obtain ⟨v, hv, hr⟩ := hall i p hp
      exact ⟨v, fun w' _ => by subst hu; simp [Instr.extract, hv], hr⟩
    split at h
    · rename_i ls hp
      obtain ⟨v, h1, h2⟩ := key _ hp h
      simp only [hp]
      exact ⟨v, h1, h2.1 rfl⟩
    · rename_i l hp
      obtain ⟨v, h1, h2⟩ := key _ hp h
      simp only [hp]
      refine ⟨v, h1, ?_⟩
      obtain ⟨l', h3, h4⟩ := h2.2 rfl
      obtain rfl : l = l' := by simpa using h3
      exact h4
    · exact h.elim
  · exact h.elim
theorem pLen_ok (hT : ∀ t i, T t = some i → TyOK P t i) {t ty : TypeId} {x : Bool × A} {u : Value} (hx : SR (RL μ ok w) x u) (h : (pLen T t x).1) : ∃ r, (∀ w' : World, True → (Builtin.len_ #[t] ty #[u]).run P w' = .ok r w') ∧ RA (RL μ ok w) (pLen T t x).2 r := by
  unfold pLen at h ⊢
  split at h
  · rename_i hTs
    have e1 : u = _ := hx h
    subst e1
    exact ⟨_, fun w' _ => by simp [Builtin.len_, run_under (prim_under hT hTs)]; rfl, rfl⟩
  · rename_i hTs
    obtain ⟨a, cap, hua, hn, hc⟩ := hx h
    subst hua
    exact ⟨_, fun w' _ => by simp [Builtin.len_, run_under (slice_under hT hTs)]; rfl, rfl⟩
  · rename_i hTs
    have e1 : u = _ := hx h
    subst e1
    exact ⟨_, fun w' _ => by simp [Builtin.len_, run_under (slice_under hT hTs)]; rfl, rfl⟩
  · rename_i hTs
    obtain ⟨b, cap, cs, t', hg, hua, hn, _, _⟩ := hx h
    subst hua
    exact ⟨_, fun w' _ => by simp [Builtin.len_, run_under (slice_under hT hTs)]; rfl, rfl⟩
  · exact h.elim
theorem bound_ok {x : Option (Bool × A)} {u : Option Value} (hx : ∀ y, x = some y → ∃ v, u = some v ∧ SR (RL μ ok w) y v) (hn : x = none → u = none) {d : Int} (h : (bound x d).1) :
    (x = none ∧ u = none ∧ (bound x d).2 = d) ∨ ∃ kk k, u = some (.int kk k) ∧ (bound x d).2 = k := by
  unfold bound at h ⊢
  split at h
  · exact .inl ⟨rfl, hn rfl, rfl⟩
  · rename_i g kk k
    obtain ⟨v, hv, hr⟩ := hx _ rfl
    have e1 : v = _ := hr h
    subst e1
    exact .inr ⟨kk, k, hv, rfl⟩
  · exact h.elim
theorem run_bounds {b : Bool} {len cap : Nat} {lo hi : Option Value} {l h : Int} (hlo : (lo = none ∧ l = 0) ∨ ∃ kk, lo = some (.int kk l)) (hhi : (hi = none ∧ h = len) ∨ ∃ kk, hi = some (.int kk h)) (h0 : 0 ≤ l) (h1 : l ≤ h) (h2 : h ≤ len) (h3 : len ≤ cap) :
    (Instr.sliceBounds b len cap lo hi none).run P w = .ok (l.toNat, h.toNat, cap) w := by
  have hc : h ≤ cap := by omega
  have hh : ∀ (k : IntKind) (y : Nat) (c : BoundsCode), h ≤ y → (Instr.sliceBound (.int k h) y c).run P w = .ok h.toNat w := by
    intro k y c hy
    have : 0 ≤ h ∧ h ≤ y := ⟨by omega, hy⟩
    simp [Instr.sliceBound, asIntOf, this]
  have hl : ∀ (k : IntKind) (y : Nat) (c : BoundsCode), l ≤ y → (Instr.sliceBound (.int k l) y c).run P w = .ok l.toNat w := by
    intro k y c hy
    have : 0 ≤ l ∧ l ≤ y := ⟨by omega, hy⟩
    simp [Instr.sliceBound, asIntOf, this]
  rcases hlo with ⟨rfl, rfl⟩ | ⟨kk, rfl⟩ <;> rcases hhi with ⟨rfl, rfl⟩ | ⟨k2, rfl⟩
  · simp [Instr.sliceBounds]
  · simp [Instr.sliceBounds, hh k2 cap _ hc]
  · simp [Instr.sliceBounds, hl kk len _ h1]
  · simp [Instr.sliceBounds, hh k2 cap _ hc, hl kk h.toNat _ (by omega)]
theorem pSlice_ok (hT : ∀ t i, T t = some i → TyOK P t i) {t : TypeId} {x : Bool × A} {lo hi : Option (Bool × A)} {u : Value} {ul uh : Option Value} (hx : SR (RL μ ok w) x u)
    (hlo : ∀ y, lo = some y → ∃ v, ul = some v ∧ SR (RL μ ok w) y v) (hln : lo = none → ul = none) (hhi : ∀ y, hi = some y → ∃ v, uh = some v ∧ SR (RL μ ok w) y v) (hhn : hi = none → uh = none)
    (h : (pSlice T t x lo hi).1) : ∃ r, (∀ w' : World, True → (Instr.sliceAt t u ul uh none).run P w' = .ok r w') ∧ RA (RL μ ok w) (pSlice T t x lo hi).2 r := by
  unfold pSlice at h ⊢
  split at h
  · rename_i g s hTs
    obtain ⟨h1, h2, h3, h4, h5, h6⟩ := h
    have e1 : u = _ := hx h1
    subst e1
    have bl := bound_ok hlo hln h2
    have bh := bound_ok hhi hhn h3
    have hb := fun w' : World => run_bounds (P := P) (w := w') (b := false) (len := s.size) (cap := s.size) (lo := ul) (hi := uh) (l := (bound lo 0).2) (h := (bound hi s.size).2)
      (by rcases bl with ⟨_, e, e'⟩ | ⟨kk, k, e, e'⟩; exact .inl ⟨e, e'⟩; exact .inr ⟨kk, by rw [e']; exact e⟩)
      (by rcases bh with ⟨_, e, e'⟩ | ⟨kk, k, e, e'⟩; exact .inl ⟨e, e'⟩; exact .inr ⟨kk, by rw [e']; exact e⟩) h4 h5 h6 (Nat.le_refl _)
    refine ⟨_, fun w' _ => ?_, rfl⟩
    simp [Instr.sliceAt, Instr.slice, run_under (prim_under hT hTs), hb]
  · rename_i e _ _ _ g n sz f hTs
    obtain ⟨h1, h7, h8, h2, h3, h4, h5, h6⟩ := h
    obtain ⟨i, hi', hs⟩ := known_some h7
    obtain ⟨a, cap, hua, hn, hc⟩ := hx h1
    subst hua
    have bl := bound_ok hlo hln h2
    have bh := bound_ok hhi hhn h3
    have hb := fun w' : World => run_bounds (P := P) (w := w') (b := true) (len := n) (cap := cap) (lo := ul) (hi := uh) (l := (bound lo 0).2) (h := (bound hi n).2)
      (by rcases bl with ⟨_, e, e'⟩ | ⟨kk, k, e, e'⟩; exact .inl ⟨e, e'⟩; exact .inr ⟨kk, by rw [e']; exact e⟩)
      (by rcases bh with ⟨_, e, e'⟩ | ⟨kk, k, e, e'⟩; exact .inl ⟨e, e'⟩; exact .inr ⟨kk, by rw [e']; exact e⟩) h4 h5 h6 hn.1
    generalize (bound lo 0).2 = l at *
    generalize (bound hi (n : Int)).2 = hh at *
    refine ⟨.slice (if cap = l.toNat then a else a.map (·.add (l.toNat * i.size))) (hh.toNat - l.toNat) (cap - l.toNat), fun w' _ => ?_, _, _, rfl, by omega, fun k hk j hj => ?_⟩
    · simp [Instr.sliceAt, Instr.slice, run_under (slice_under hT hTs), hb, run_size (hT _ _ hi')]
    · have hcap : cap ≠ l.toNat := by omega
      obtain ⟨b, v, hb', ho, hv, hr⟩ := hc (l.toNat + k) (by omega) j hj
      subst hb'
      refine ⟨b.add (l.toNat * i.size), v, by rw [if_neg hcap]; rfl, by rw [add_block]; exact ho, ?_, hr⟩
      rw [add_add, ← hs, h8, show l.toNat * sz + (k * sz + j) = (l.toNat + k) * sz + j by rw [Nat.add_mul]; omega]
      exact hv
  · rename_i e _ _ _ g id sz o n hTs
    obtain ⟨h1, h7, h8, h2, h3, h4, h5, h6, h9⟩ := h
    obtain ⟨i, hi', hs⟩ := known_some h7
    obtain ⟨b, cap, cs, t', hg, hua, hn, hcs, hsz⟩ := hx h1
    subst hua
    have bl := bound_ok hlo hln h2
    have bh := bound_ok hhi hhn h3
    have hb := fun w' : World => run_bounds (P := P) (w := w') (b := true) (len := n) (cap := cap) (lo := ul) (hi := uh) (l := (bound lo 0).2) (h := (bound hi n).2)
      (by rcases bl with ⟨_, e, e'⟩ | ⟨kk, k, e, e'⟩; exact .inl ⟨e, e'⟩; exact .inr ⟨kk, by rw [e']; exact e⟩)
      (by rcases bh with ⟨_, e, e'⟩ | ⟨kk, k, e, e'⟩; exact .inl ⟨e, e'⟩; exact .inr ⟨kk, by rw [e']; exact e⟩) h4 h5 h6 hn
    generalize (bound lo 0).2 = l at *
    generalize (bound hi (n : Int)).2 = hh at *
    refine ⟨.slice (if cap = l.toNat then some ⟨b, o * sz, none⟩ else some ((⟨b, o * sz, none⟩ : Addr).add (l.toNat * i.size))) (hh.toNat - l.toNat) (cap - l.toNat), fun w' _ => ?_, b, cap - l.toNat, cs, t', hg, ?_, by clear bl bh hb; omega, hcs, by clear bl bh hb; rw [hsz]; congr 1; omega⟩
    · simp [Instr.sliceAt, Instr.slice, run_under (slice_under hT hTs), hb, run_size (hT _ _ hi')]
    · rw [add_lit, ← hs, h8, ← Nat.add_mul]
      split
      · rename_i hc
        have : l.toNat = 0 := by clear bl bh hb; omega
        rw [this, Nat.add_zero]
      · rfl
  · exact h.elim
theorem pMin_ok {mx : Bool} {ts : Array TypeId} {t : TypeId} {x y : Bool × A} {u v : Value} (hx : SR (RL μ ok w) x u) (hy : SR (RL μ ok w) y v) (h : (pMin mx x y).1) :
    ∃ r, (∀ w' : World, True → (if mx then Builtin.max_ ts t #[u, v] else Builtin.min_ ts t #[u, v] : Sem Value).run P w' = .ok r w') ∧ RA (RL μ ok w) (pMin mx x y).2 r := by
  unfold pMin at h ⊢
  split at h
  · obtain ⟨h1, h2⟩ := h
    obtain rfl : u = _ := hx h1
    obtain rfl : v = _ := hy h2
    refine ⟨_, fun w' _ => ?_, rfl⟩
    cases mx <;> simp [Builtin.max_, Builtin.min_, Builtin.max2, Builtin.min2, List.foldlM]
  · exact h.elim
end
end Go.Proofs.YtdedmhmomoejkaaDoor.V
