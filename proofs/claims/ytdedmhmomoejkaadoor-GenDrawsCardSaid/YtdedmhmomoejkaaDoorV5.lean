import Derived.Test.YtdedmhmomoejkaaDoorV4
namespace Go.Proofs.YtdedmhmomoejkaaDoor.V
open Go Go.RowKit Go.Proofs.YtdedmhmomoejkaaDoorW.PrintLast
set_option linter.unusedVariables false
set_option linter.unusedSimpArgs false
section
variable {P : Program} {T : Ty} {w : World} {μ : List Nat} {ok : Nat → Prop}
theorem lcell_one {l : L} {u : Value} (h : RL μ ok w l u) (hl : lcell l = true) : u.oneCell' = true := by
  cases l with
  | c x =>
    cases x with
    | v x => have e : u = x := h; subst e; exact hl
    | sl n sz f => obtain ⟨a, cap, hu, _⟩ := h; subst hu; rfl
    | any => simp [lcell] at hl
  | ptr id off => obtain ⟨g, _, hu⟩ := h; subst hu; rfl
  | ep id sz i off => obtain ⟨g, _, hu⟩ := h; subst hu; rfl
  | rp n f => obtain ⟨b, hu, _⟩ := h; subst hu; rfl
  | own id sz o n => obtain ⟨g, cap, cs, t, _, hu, _⟩ := h; subst hu; rfl
  | fn f caps => obtain ⟨gs, _, _, hu⟩ := h; subst hu; rfl
  | junk => simp [lcell] at hl
theorem leaves_ok {a : A} {u : Value} (h : RA (RL μ ok w) a u) (hw : whole a = true) : RLs (RL μ ok w) (leaves a) u.cells.toList := by
  refine RA.leaves h ?_
  cases a with
  | agg ls => exact .inl ⟨ls, rfl⟩
  | one l =>
    refine .inr ⟨l, rfl, fun cs hu => ?_⟩
    have := lcell_one h hw
    rw [hu] at this
    simp [Value.oneCell'] at this
  | tup xs => simp [whole] at hw
  | opt g a => simp [whole] at hw
theorem foldl_set (vs : List Value) : ∀ (cs : Array Value) (off k : Nat), off + k + vs.length ≤ cs.size →
    ((vs.zipIdx k).foldl (fun cs (x : Value × Nat) => cs.setIfInBounds (off + x.2) x.1) cs).toList = cs.toList.take (off + k) ++ vs ++ cs.toList.drop (off + k + vs.length) := by
  induction vs with
  | nil => intro cs off k h; simp
  | cons v vs ih =>
    intro cs off k h
    simp only [List.length_cons] at h
    rw [List.zipIdx_cons, List.foldl_cons, ih _ off (k + 1) (by simp only [Array.size_setIfInBounds]; omega)]
    rw [Array.toList_setIfInBounds]
    have hl : off + k < cs.toList.length := by rw [Array.length_toList]; omega
    rw [List.set_eq_take_append_cons_drop, if_pos hl]
    have e1 : (cs.toList.take (off + k)).length = off + k := by rw [List.length_take]; omega
    rw [List.take_append, List.drop_append, e1]
    have e2 : off + (k + 1) - (off + k) = 1 := by omega
    have e3 : off + (k + 1) + vs.length - (off + k) = vs.length + 1 := by omega
    rw [e2, e3, List.take_of_length_le (by rw [e1]; omega), List.drop_of_length_le (show (cs.toList.take (off + k)).length ≤ off + (k + 1) + vs.length by rw [e1]; omega)]
    simp only [List.take_succ_cons, List.take_zero, List.drop_succ_cons, List.drop_drop, List.nil_append, List.length_cons]
    rw [show off + k + 1 + vs.length = off + k + (vs.length + 1) by omega]
    simp
theorem fill_ok {place : Nat → Option (Nat × Nat)} : ∀ (ps : List (Nat × Bool × A)) (vs : List (Nat × Value)) (ls ls' : List L) (cs : Array Value) (p : Prop),
    ps.length = vs.length → (∀ (j : Nat) q v, ps[j]? = some q → vs[j]? = some v → q.1 = v.1 ∧ SR (RL μ ok w) q.2 v.2) → RLs (RL μ ok w) ls cs.toList → fillL place ls ps = some (p, ls') → p →
    ∃ cs', Instr.fill place cs vs = some cs' ∧ RLs (RL μ ok w) ls' cs'.toList
  | [], vs, ls, ls', cs, p, hl, hr, hc, hf, hp => by
    have : vs = [] := List.length_eq_zero_iff.1 hl.symm
    subst this
    simp only [fillL, Option.some.injEq, Prod.mk.injEq] at hf
    exact ⟨cs, rfl, by rw [← hf.2]; exact hc⟩
  | (i, g, a) :: ps, vs, ls, ls', cs, p, hl, hr, hc, hf, hp => by
    cases vs with
    | nil => simp at hl
    | cons v vs =>
      obtain ⟨k, v⟩ := v
      obtain ⟨e, hsr⟩ := hr 0 _ _ rfl rfl
      simp only at e
      subst e
      simp only [fillL] at hf
      cases hpl : place i with
      | none => rw [hpl] at hf; simp at hf
      | some q =>
        obtain ⟨off, size⟩ := q
        rw [hpl] at hf
        simp only at hf
        split at hf
        · rename_i hcond
          cases hrest : fillL place (ls.take off ++ leaves a ++ ls.drop (off + size)) ps with
          | none => rw [hrest] at hf; simp at hf
          | some q =>
            obtain ⟨p', l'⟩ := q
            rw [hrest] at hf
            simp only [Option.map_some, Option.some.injEq, Prod.mk.injEq] at hf
            obtain ⟨rfl, rfl⟩ := hf
            obtain ⟨hg, hwh, hp'⟩ := hp
            have hlv := leaves_ok (hsr hg) hwh
            have hvs : v.cells.size = size := by
              have h8 : (leaves a).length = v.cells.toList.length := hlv.1
              have h9 : v.cells.toList.length = v.cells.size := Array.length_toList
              omega
            have hcs : off + size ≤ cs.size := by have h8 := hc.1; have h9 : cs.toList.length = cs.size := Array.length_toList; omega
            have hfo := foldl_set v.cells.toList cs off 0 (by rw [Array.length_toList]; omega)
            have hnew : RLs (RL μ ok w) (ls.take off ++ leaves a ++ ls.drop (off + size)) ((v.cells.toList.zipIdx 0).foldl (fun cs (x : Value × Nat) => cs.setIfInBounds (off + x.2) x.1) cs).toList := by
              rw [hfo, Nat.add_zero, Array.length_toList, hvs]
              exact RLs.append (RLs.append (hc.take off) hlv) (hc.drop _)
            obtain ⟨cs', h1, h2⟩ := fill_ok ps vs _ l' _ p' (by simpa using hl) (fun j q u hq hu => hr (j + 1) q u hq hu) hnew hrest hp'
            refine ⟨cs', ?_, h2⟩
            rw [Instr.fill, hpl]
            simp only
            rw [if_neg (by simp [hvs]; omega)]
            rw [← h1]
            congr 1
            rw [← Array.foldl_toList]
            simp [Array.toList_zipIdx]
        · cases hf
theorem places_ok (hT : ∀ t i, T t = some i → TyOK P t i) : ∀ (fa : List Field), (fa.map fun f => (f.offset, f.type)).all (fun p => T.known p.2) = true →
    fa.mapM (fun f => (P.info? f.type).map fun i => (f.offset, i.size)) = some ((fa.map fun f => (f.offset, f.type)).map fun p => (p.1, T.size p.2))
  | [], _ => rfl
  | f :: fa, h => by
    simp only [List.map_cons, List.all_cons, Bool.and_eq_true] at h
    obtain ⟨i, hi, hs⟩ := known_some h.1
    obtain ⟨j, z, h1, h2, _⟩ := (hT _ _ hi).info
    simp [List.mapM_cons, places_ok hT fa h.2, h1, h2, hs]
theorem pBuild_ok (hT : ∀ t i, T t = some i → TyOK P t i) {t : TypeId} {ps : List (Nat × Bool × A)} {vs : Array (Nat × Value)} (hl : ps.length = vs.toList.length)
    (hr : ∀ (j : Nat) q v, ps[j]? = some q → vs.toList[j]? = some v → q.1 = v.1 ∧ SR (RL μ ok w) q.2 v.2) (h : (pBuild T t ps).1) : ∃ r, (∀ w' : World, True → (Instr.build t vs).run P w' = .ok r w') ∧ RA (RL μ ok w) (pBuild T t ps).2 r := by
  unfold pBuild at h ⊢
  split at h
  · rename_i fs _ _ _ z hTs
    split at h
    · rename_i p ls hf
      obtain ⟨hp, hk⟩ := h
      obtain ⟨fa, hu, hfs⟩ := struct_under hT hTs
      obtain ⟨j, zv, h1, h2, h3, h4, h5⟩ := (hT _ _ hTs).info
      have hpl := places_ok hT fa.toList (by rw [hfs]; exact hk)
      rw [hfs] at hpl
      have hplace : (fun (i : Nat) => (fs[i]?).map fun (p : Nat × TypeId) => (p.1, T.size p.2)) = fun (i : Nat) => (fs.map fun (p : Nat × TypeId) => (p.1, T.size p.2)).toArray[i]? := by
        funext i; simp
      rw [hplace] at hf
      obtain ⟨cs', h6, h7⟩ := fill_ok ps vs.toList _ ls zv.cells p hl hr (by rw [h5]; exact RLs.vals _) hf hp
      refine ⟨.agg cs', fun w' _ => run_build w' t vs cs' ?_, cs', rfl, h7⟩
      unfold Program.built
      simp only [h1, hu, h4, hpl]
      exact h6
    · exact h.elim
  · exact h.elim
/-- It looks at registers alone. -/
def memFree : Op → Bool
  | .load .. => false
  | _ => true
/-- What only reads: it yields what is told, and turns nothing. -/
theorem pure_ok (hT : ∀ t i, T t = some i → TyOK P t i) {σ : St} {a : Act} {o : Oper} {p : Prop} {r : A} (h : pure? T σ o.op = some (p, r)) (hR : Rl μ ok σ a w) (hp : p) :
    ∃ v, (∀ w', (memFree o.op = true ∨ Ag μ ok σ.bx w w') → (execOp a.eval o).run P w' = .ok (.value v) w') ∧ RA (RL μ ok w) r v := by
  have ev : ∀ x, SR (RL μ ok w) (strip (σ.ev x)) (a.eval x) := fun x => SR.of (ev_ok hR x)
  have fin : ∀ {s : Sem Value} {r' : A} {D : World → Prop}, (∃ v, (∀ w', D w' → s.run P w' = .ok v w') ∧ RA (RL μ ok w) r' v) → r' = r → ∃ v, (∀ w', D w' → (do pure (.value (← s)) : Sem Next).run P w' = .ok (.value v) w') ∧ RA (RL μ ok w) r v := by
    rintro s r' D ⟨v, h1, h2⟩ rfl
    exact ⟨v, fun w' hw' => by simp [h1 w' hw'], h2⟩
  have wide : ∀ {s : Sem Value} {r' : A}, (∃ v, (∀ w' : World, True → s.run P w' = .ok v w') ∧ RA (RL μ ok w) r' v) → r' = r → ∃ v, (∀ w', (true = true ∨ Ag μ ok σ.bx w w') → (do pure (.value (← s)) : Sem Next).run P w' = .ok (.value v) w') ∧ RA (RL μ ok w) r v := fun h1 h2 => let ⟨v, h3, h4⟩ := fin h1 h2; ⟨v, fun w' _ => h3 w' trivial, h4⟩
  obtain ⟨dst, op, ty, pos, after, guard⟩ := o
  cases op with
  | move x =>
    simp only [pure?, Option.some.injEq, Prod.mk.injEq] at h
    obtain ⟨_, rfl⟩ := h
    exact ⟨_, fun _ _ => rfl, ev_ok hR x⟩
  | assign x =>
    simp only [pure?, Option.some.injEq, Prod.mk.injEq] at h
    obtain ⟨_, rfl⟩ := h
    exact ⟨_, fun _ _ => rfl, ev_ok hR x⟩
  | pick c x y =>
    simp only [pure?, Option.some.injEq] at h
    have h1 : (pPick (strip (σ.ev c)) (strip (σ.ev x)) (strip (σ.ev y))).1 := by rw [h]; exact hp
    obtain ⟨v, h2, h3⟩ := pPick_ok (P := P) (ev c) (ev x) (ev y) h1
    rw [h] at h3
    refine ⟨v, fun w' hw' => ?_, h3⟩
    have h2 := h2 w' trivial
    simp only [execOp]
    simp only [Sem.run_bind, Sem.run_pure] at h2 ⊢
    cases hb : (asBool (a.eval c)).run P w' with
    | ok b w2 =>
      rw [hb] at h2
      simp only [Result.andThen_ok, Result.ok.injEq] at h2 ⊢
      exact ⟨by rw [h2.1], h2.2⟩
    | halt e w2 => rw [hb] at h2; simp at h2
  | binOp op t x y t2 =>
    simp only [pure?, Option.some.injEq] at h
    have h1 : (pBin T t op (strip (σ.ev x)) (strip (σ.ev y))).1 := by rw [h]; exact hp
    exact wide (pBin_ok hT (ox := x) (oy := y) (ev x) (ev y) h1) (by rw [h])
  | unOp op t x =>
    cases op with
    | not =>
      simp only [pure?, Option.some.injEq] at h
      have h1 : (pNot (strip (σ.ev x))).1 := by rw [h]; exact hp
      exact wide (pNot_ok (ev x) h1) (by rw [h])
    | neg =>
      simp only [pure?, Option.some.injEq] at h
      have h1 : (pNeg (strip (σ.ev x))).1 := by rw [h]; exact hp
      exact wide (pNeg_ok (ev x) h1) (by rw [h])
    | _ => simp [pure?] at h
  | nilCheck x =>
    simp only [pure?, Option.some.injEq] at h
    have hx := ev x
    have fin2 : ∀ (L0 : A) (g : Bool), pNil (strip (σ.ev x)) = (g = true, L0) → strip (σ.ev x) = (g, L0) → (RA (RL μ ok w) L0 (a.eval x) → ∃ y, a.eval x = y ∧ ((∃ b, y = .pointer (some b)) ∨ ∃ f z c, y = .func (.func f) z c)) →
        ∃ v, (∀ w', (memFree (.nilCheck x) = true ∨ Ag μ ok σ.bx w w') → (execOp a.eval { dst := dst, op := .nilCheck x, type := ty, pos := pos, after := after, guard := guard }).run P w' = .ok (.value v) w') ∧ RA (RL μ ok w) r v := by
      intro L0 g h1 h2 h3
      rw [h1] at h
      simp only [Prod.mk.injEq] at h
      obtain ⟨h4, rfl⟩ := h
      rw [h2] at hx
      have hx := hx (by rw [← h4] at hp; exact hp)
      refine ⟨_, fun w' _ => ?_, hx⟩
      obtain ⟨y, hy, ⟨b, rfl⟩ | ⟨f, z, c, rfl⟩⟩ := h3 hx
      · simp only [execOp, hy]; rfl
      · simp only [execOp, hy]; rfl
    generalize hs : strip (σ.ev x) = s at hx fin2
    rw [hs] at h
    unfold pNil at h
    split at h
    · exact fin2 _ _ rfl rfl (fun hu => by obtain ⟨g, _, hu⟩ := hu; exact ⟨_, hu, .inl ⟨_, rfl⟩⟩)
    · exact fin2 _ _ rfl rfl (fun hu => by obtain ⟨g, _, hu⟩ := hu; exact ⟨_, hu, .inl ⟨_, rfl⟩⟩)
    · exact fin2 _ _ rfl rfl (fun hu => by obtain ⟨g, hu, _⟩ := hu; exact ⟨_, hu, .inl ⟨_, rfl⟩⟩)
    · exact fin2 _ _ rfl rfl (fun hu => by obtain ⟨g, _, _, hu⟩ := hu; exact ⟨_, hu, .inr ⟨_, _, _, rfl⟩⟩)
    · simp only [Prod.mk.injEq] at h
      rw [← h.1] at hp
      exact hp.elim
  | convert s d x =>
    simp only [pure?] at h
    split at h
    · simp only [Option.some.injEq] at h
      have h1 : (pConv T s d (strip (σ.ev x))).1 := by rw [h]; exact hp
      exact wide (pConv_ok hT (ev x) h1) (by rw [h])
    · cases h
  | load t x =>
    simp only [pure?, Option.some.injEq] at h
    have h1 : (pLoad T σ.bx t (strip (σ.ev x))).1 := by rw [h]; exact hp
    obtain ⟨v, h3, h4⟩ := fin (pLoad_ok hT hR.mem (ev x) h1) (by rw [h])
    exact ⟨v, fun w' hw' => h3 w' (hw'.elim (fun e => by cases e) (_root_.id)), h4⟩
  | fieldAddr s x k =>
    simp only [pure?, Option.some.injEq] at h
    have h1 : (pFieldAddr T s (strip (σ.ev x)) k).1 := by rw [h]; exact hp
    exact wide (pFieldAddr_ok hT (ev x) h1) (by rw [h])
  | field s x k =>
    simp only [pure?, Option.some.injEq] at h
    have h1 : (pField T s (strip (σ.ev x)) k).1 := by rw [h]; exact hp
    exact wide (pField_ok hT (ev x) h1) (by rw [h])
  | indexAddr t x i =>
    simp only [pure?, Option.some.injEq] at h
    have h1 : (pIndexAddr T t (strip (σ.ev x)) (strip (σ.ev i))).1 := by rw [h]; exact hp
    exact wide (pIndexAddr_ok hT (ev x) (ev i) h1) (by rw [h])
  | index t x i =>
    simp only [pure?, Option.some.injEq] at h
    have h1 : (pIndex T t (strip (σ.ev x)) (strip (σ.ev i))).1 := by rw [h]; exact hp
    exact wide (pIndex_ok hT (ev x) (ev i) h1) (by rw [h])
  | extract x i =>
    simp only [pure?, Option.some.injEq] at h
    have h1 : (pExtract (strip (σ.ev x)) i).1 := by rw [h]; exact hp
    exact wide (pExtract_ok (ev x) h1) (by rw [h])
  | slice t x lo hi mx =>
    cases mx with
    | some m => simp [pure?] at h
    | none =>
      simp only [pure?, Option.some.injEq] at h
      have h1 : (pSlice T t (strip (σ.ev x)) (lo.map fun y => strip (σ.ev y)) (hi.map fun y => strip (σ.ev y))).1 := by rw [h]; exact hp
      have hop : ∀ z : Option Operand, (∀ y, (z.map fun y => strip (σ.ev y)) = some y → ∃ v, z.map a.eval = some v ∧ SR (RL μ ok w) y v) ∧ ((z.map fun y => strip (σ.ev y)) = none → z.map a.eval = none) := by
        intro z
        cases z with
        | none => exact ⟨fun y hy => by simp at hy, fun _ => rfl⟩
        | some q => exact ⟨fun y hy => ⟨_, rfl, by obtain rfl : strip (σ.ev q) = y := by simpa using hy
                                                   exact ev q⟩, fun hh => by simp at hh⟩
      exact wide (pSlice_ok (ul := lo.map a.eval) (uh := hi.map a.eval) hT (ev x) (hop lo).1 (hop lo).2 (hop hi).1 (hop hi).2 h1) (by rw [h])
  | build t parts =>
    simp only [pure?, Option.some.injEq] at h
    have h1 : (pBuild T t (parts.toList.map fun p => (p.1, strip (σ.ev p.2)))).1 := by rw [h]; exact hp
    refine wide (pBuild_ok (vs := parts.map fun (i, x) => (i, a.eval x)) hT (by simp) (fun j q v hq hv => ?_) h1) (by rw [h])
    simp only [Array.toList_map, List.getElem?_map] at hq hv
    cases hz : parts.toList[j]? with
    | none => rw [hz] at hq; simp at hq
    | some z =>
      rw [hz] at hq hv
      simp only [Option.map_some, Option.some.injEq] at hq hv
      subst hq hv
      exact ⟨rfl, ev z.2⟩
  | call c =>
    obtain ⟨cal, xs, ts⟩ := c
    cases cal with
    | builtin b =>
      cases b with
      | len =>
        simp only [pure?] at h
        split at h
        · rename_i x t hx ht
          simp only [Option.some.injEq] at h
          have h1 : (pLen T t (strip (σ.ev x))).1 := by rw [h]; exact hp
          have e1 : xs = #[x] := by apply Array.ext'; simpa using hx
          have e2 : ts = #[t] := by apply Array.ext'; simpa using ht
          subst e1 e2
          have := wide (pLen_ok (ty := ty) hT (ev x) h1) (by rw [h])
          simpa [execOp, resolve, invoke, builtin, memFree] using this
        · cases h
      | min =>
        simp only [pure?] at h
        split at h
        · rename_i x y hx
          simp only [Option.some.injEq] at h
          have h1 : (pMin false (strip (σ.ev x)) (strip (σ.ev y))).1 := by rw [h]; exact hp
          have e1 : xs = #[x, y] := by apply Array.ext'; simpa using hx
          subst e1
          have := wide (pMin_ok (ts := ts) (t := ty) (ev x) (ev y) h1) (by rw [h])
          simpa [execOp, resolve, invoke, builtin, memFree] using this
        · cases h
      | max =>
        simp only [pure?] at h
        split at h
        · rename_i x y hx
          simp only [Option.some.injEq] at h
          have h1 : (pMin true (strip (σ.ev x)) (strip (σ.ev y))).1 := by rw [h]; exact hp
          have e1 : xs = #[x, y] := by apply Array.ext'; simpa using hx
          subst e1
          have := wide (pMin_ok (ts := ts) (t := ty) (ev x) (ev y) h1) (by rw [h])
          simpa [execOp, resolve, invoke, builtin, memFree] using this
        · cases h
      | _ => simp [pure?] at h
    | _ => simp [pure?] at h
  | _ => simp [pure?] at h
end
end Go.Proofs.YtdedmhmomoejkaaDoor.V
