import Derived.Test.YtdedmhmomoejkaaDoorV15
namespace Go.Proofs.YtdedmhmomoejkaaDoor.V
open Go Go.RowKit Go.Proofs.YtdedmhmomoejkaaDoorW.PrintLast
set_option linter.unusedVariables false
set_option linter.unusedSimpArgs false
section
variable {P : Program} {T : Ty} {ok0 : Nat → Prop} {μ0 : List Nat} {w0 : World}
theorem RA_undef {R : L → Value → Prop} : ∀ (a : A) (u : Value), RA R a u → (strip a).1 = false → u = undef
  | .one _, _, _, h => by simp [strip] at h
  | .agg _, _, _, h => by simp [strip] at h
  | .tup _, _, _, h => by simp [strip] at h
  | .opt g a, u, h, hs => by
    cases g with
    | false => exact h.2 rfl
    | true => exact RA_undef a u (h.1 rfl) (by simpa [strip] using hs)
theorem gval_ok {μ : List Nat} {ok : Nat → Prop} {σ : St} {a : Act} {w : World} {ops : Array Oper} {j : Nat} {b g : Bool} (h : Rl μ ok σ a w) (hg : gval σ ops j b = some g) : (yielded ops a.tmps j == some b) = g := by
  unfold gval at hg
  unfold yielded
  cases hd : (ops[j]?).bind (·.dst) with
  | none => rw [hd] at hg; cases hg
  | some d =>
    rw [hd] at hg
    simp only [Option.bind_some] at hg ⊢
    have hd' := h.tm d
    rw [Array.getD_eq_getD_getElem?] at hd'
    split at hg
    · rename_i gg t heq
      obtain rfl : (gg && (t == b)) = g := by simpa using hg
      cases gg with
      | true =>
        have := RA_strip _ _ hd' (by rw [heq])
        rw [heq] at this
        have e : a.tmps[d]?.getD undef = .bool t := this
        cases hv : a.tmps[d]? with
        | none => rw [hv] at e; cases e
        | some v =>
          rw [hv] at e
          obtain rfl : v = .bool t := e
          cases t <;> cases b <;> rfl
      | false =>
        have e := RA_undef _ _ hd' (by rw [heq])
        cases hv : a.tmps[d]? with
        | none => rfl
        | some v =>
          rw [hv] at e
          obtain rfl : v = undef := e
          rfl
    · cases hg
theorem areg_ok (hT : ∀ t i, T t = some i → TyOK P t i) {ops : Array Oper} {o : Oper} {μ : List Nat} {ok : Nat → Prop} {σ : St} {a : Act} {w : World} {p : Prop} {x : A} (hR : Rl μ ok σ a w) (h : areg T ops o σ = some (p, x)) (hp : p) :
    ∃ v, RA (RL μ ok w) x v ∧ ((Region.wanted o (yielded ops a.tmps) = true ∧ ∀ w', (memFree o.op = true ∨ Ag μ ok σ.bx w w') → (execOp a.eval o).run P w' = .ok (.value v) w') ∨ (Region.wanted o (yielded ops a.tmps) = false ∧ v = undef)) := by
  unfold areg at h
  split at h
  · rename_i hg
    obtain ⟨v, h1, h2⟩ := pure_ok hT h hR hp
    exact ⟨v, h2, .inl ⟨by unfold Region.wanted; rw [hg], h1⟩⟩
  · rename_i j b hg
    split at h
    · rename_i g hgv
      have hw : Region.wanted o (yielded ops a.tmps) = g := by
        unfold Region.wanted
        rw [hg]
        exact gval_ok hR hgv
      split at h
      · rename_i p' r hpu
        simp only [Option.some.injEq, Prod.mk.injEq] at h
        obtain ⟨rfl, rfl⟩ := h
        cases g with
        | true =>
          obtain ⟨v, h1, h2⟩ := pure_ok hT hpu hR (hp rfl)
          exact ⟨v, ⟨(fun _ => h2), (fun e => by cases e)⟩, .inl ⟨hw, h1⟩⟩
        | false => exact ⟨undef, ⟨(fun e => by cases e), (fun _ => rfl)⟩, .inr ⟨hw, rfl⟩⟩
      · cases h
    · cases h
theorem RelX.putX {ν : List Nat} {σ : St} {a : Act} {w : World} (h : RelX ok0 μ0 w0 ν σ a w) {x : A} {v : Value} (hv : ∀ ok, Rl (μ0 ++ ν) ok σ a w → RA (RL (μ0 ++ ν) ok w) x v) (d : Option Nat) : RelX ok0 μ0 w0 ν (σ.putO d x) (a.put d v) w := by
  obtain ⟨ok, h0, hR, hO⟩ := h
  exact ⟨ok, by rw [putO_m]; exact h0, hR.put d (hv ok hR), hO⟩
theorem aoper_ok (hT : ∀ t i, T t = some i → TyOK P t i) {gr : Option (List Nat)} {ops : Array Oper} {o : Oper} {Q : Exit → Act → World → Prop} {k : St → Prop} {K : Act → World → Prop} {ν : List Nat} {σ : St} {a : Act} {w : World} (h : RelX ok0 μ0 w0 ν σ a w) (he : aoper P T gr ops o σ k)
    (hk : ∀ ν2 σ' v w', RelX ok0 μ0 w0 (ν ++ ν2) σ' (a.put o.dst v) w' → (∀ D, gr = some D → Fw (D.map fun i => (μ0 ++ ν).getD i 0) w w') → k σ' → K (a.put o.dst v) w') :
    if Region.wanted o (yielded ops a.tmps) = true then o.wp P a w K Q else K (a.put o.dst undef) w := by
  have hpure : ∀ p x, areg T ops o σ = some (p, x) → p → k (σ.putO o.dst x) → if Region.wanted o (yielded ops a.tmps) = true then o.wp P a w K Q else K (a.put o.dst undef) w := by
    intro p x h1 h2 h3
    obtain ⟨ok, h0, hR, hO⟩ := id h
    obtain ⟨v, h4, ⟨h5, h6⟩ | ⟨h5, h6⟩⟩ := areg_ok hT hR h1 h2
    · rw [h5, if_pos rfl]
      exact wp_value (h6 w (.inr (Ag.refl _ _ _ _))) (hk [] _ _ _ (by rw [List.append_nil]; exact ⟨ok, by rw [putO_m]; exact h0, hR.put o.dst h4, hO⟩) (fun _ _ => Fw.refl _ _) h3)
    · subst h6
      rw [h5, if_neg (by simp)]
      exact hk [] _ _ _ (by rw [List.append_nil]; exact ⟨ok, by rw [putO_m]; exact h0, hR.put o.dst h4, hO⟩) (fun _ _ => Fw.refl _ _) h3
  unfold aoper at he
  split at he
  · rename_i hg
    split at he
    · rename_i p x hp
      exact hpure p x (by unfold areg; rw [hg]; exact hp) he.1 he.2
    · rw [if_pos (by unfold Region.wanted; rw [hg])]
      exact eff_ok hT h he fun x σ' v w' h1 h2 h3 => let ⟨ν2, h4⟩ := h1.put o.dst; hk ν2 _ _ _ h4 h2 h3
  · rename_i j b hg
    split at he
    · rename_i g hgv
      split at he
      · rename_i p x hp
        exact hpure (g = true → p) (.opt g x) (by unfold areg; rw [hg]; simp only [hgv, hp]) he.1 he.2
      · have hw : Region.wanted o (yielded ops a.tmps) = g := by
          unfold Region.wanted
          rw [hg]
          obtain ⟨ok, h0, hR, _⟩ := h
          exact gval_ok hR hgv
        rw [hw]
        cases g with
        | true =>
          rw [if_pos rfl]
          exact eff_ok hT h (he.1 rfl) fun x σ' v w' h1 h2 h3 => let ⟨ν2, h4⟩ := h1.put o.dst; hk ν2 _ _ _ h4 h2 h3
        | false =>
          rw [if_neg (by simp)]
          exact hk [] _ _ _ (by rw [List.append_nil]; exact h.putX (x := .v undef) (fun _ _ => rfl) o.dst) (fun _ _ => Fw.refl _ _) (he.2 rfl)
    · exact he.elim
theorem aops_ok (hT : ∀ t i, T t = some i → TyOK P t i) {ops : Array Oper} {Q : Exit → Act → World → Prop} {k : St → Prop} (hQ : ∀ σ a w, Rel ok0 μ0 w0 σ a w → k σ → Q .normal a w) :
    ∀ (l : List Oper) (ν : List Nat) (σ : St) (a : Act) (w : World), RelX ok0 μ0 w0 ν σ a w → aops P T ops l σ k → wpList P ops Q l a w
  | [], ν, σ, a, w, h, he => wpList_nil (hQ σ a w ⟨ν, h⟩ he)
  | o :: r, ν, σ, a, w, h, he => wpList_step fun K hK => aoper_ok hT h (gr := none) (k := fun σ' => aops P T ops r σ' k) he fun ν2 σ' v w' h1 _ h2 => hK _ _ (aops_ok hT hQ r (ν ++ ν2) σ' _ w' h1 h2)
theorem RelX.drew {ν : List Nat} {σ : St} {a : Act} {w : World} (h : RelX ok0 μ0 w0 ν σ a w) : RelX ok0 μ0 w0 ν σ a w.drew := by
  obtain ⟨ok, h0, hR, hO⟩ := h
  have hd : Below w.heap.size w w.drew := (Below.refl _ w).drew
  exact ⟨ok, h0, ⟨Mem_below hR.mem hd, hR.nt, fun t => RA_mono (fun l u hl => RL_below hR.mem hd hl) _ _ (hR.tm t), hR.df⟩, hO.below hd⟩
theorem hideB_at {D : List Nat} : ∀ {bx : List B} {n i : Nat} {b : B}, (hideB D n bx)[i]? = some b → b ≠ .hid → bx[i]? = some b ∧ (n + i) ∉ D
  | [], n, i, b, h, _ => by simp [hideB] at h
  | b0 :: r, n, 0, b, h, hne => by
    simp only [hideB, List.getElem?_cons_zero, Option.some.injEq] at h
    split at h
    · exact absurd h.symm hne
    · rename_i hc
      exact ⟨by simpa using h, by simpa using hc⟩
  | b0 :: r, n, i + 1, b, h, hne => by
    simp only [hideB, List.getElem?_cons_succ] at h
    obtain ⟨h1, h2⟩ := hideB_at h hne
    exact ⟨by simpa using h1, by rw [show n + (i + 1) = n + 1 + i by omega]; exact h2⟩
theorem hideB_len {D : List Nat} : ∀ {bx : List B} {n : Nat}, (hideB D n bx).length = bx.length
  | [], n => rfl
  | b :: r, n => by simp [hideB, hideB_len (bx := r)]
theorem Rl.hide {μ : List Nat} {ok : Nat → Prop} {σ : St} {a : Act} {w : World} (h : Rl μ ok σ a w) (D : List Nat) : Rl μ ok (σ.hide D) a w := by
  have at_ : ∀ (i : Nat) b, (σ.hide D).bx[i]? = some b → b ≠ .hid → σ.bx[i]? = some b := fun i b h hne => (hideB_at h hne).1
  refine ⟨⟨by rw [h.mem.len]; exact hideB_len.symm, fun i j b b' g h1 h2 hn1 hn2 h3 h4 => h.mem.nd i j b b' g (at_ i b h1 hn1) (at_ j b' h2 hn2) hn1 hn2 h3 h4, fun i b g h1 h2 hn => h.mem.live i b g (at_ i b h1 hn) h2 hn, h.mem.there, h.mem.small, fun i b g h1 h2 => ?_⟩, h.nt, h.tm, h.df⟩
  by_cases hn : b = .hid
  · subst hn; trivial
  · exact h.mem.box i b g (at_ i b h1 hn) h2
/-- A world in which the blocks of D alone were turned is alike in what is told without them. -/
theorem Ag.fw {μ D : List Nat} {ok : Nat → Prop} {σ : St} {a : Act} {w w' : World} (h : Rl μ ok σ a w) (hD : ∀ i, i ∈ D → ∃ b, σ.bx[i]? = some b ∧ b ≠ .hid) (hF : Fw (D.map fun i => μ.getD i 0) w w') : Ag μ ok (σ.hide D).bx w w' := by
  have inD : ∀ k, k ∈ D.map (fun i => μ.getD i 0) → ∃ i b, i ∈ D ∧ σ.bx[i]? = some b ∧ b ≠ .hid ∧ μ[i]? = some k := by
    intro k hk
    obtain ⟨i, hi, hik⟩ := List.mem_map.1 hk
    obtain ⟨b, h1, h2⟩ := hD i hi
    have hil : i < μ.length := by rw [h.mem.len]; exact at_in h1
    refine ⟨i, b, hi, h1, h2, ?_⟩
    rw [List.getD_eq_getElem?_getD, List.getElem?_eq_getElem hil] at hik
    rw [List.getElem?_eq_getElem hil]
    simpa using hik
  intro k hk
  rcases hk with hk | ⟨i, b, h1, h2, h3⟩
  · refine hF.block k (h.mem.small k hk) (fun hx => ?_)
    obtain ⟨j, b, _, h5, h6, h7⟩ := inD k hx
    exact h.mem.live j b k h5 h7 h6 hk
  · obtain ⟨h4, h5⟩ := hideB_at h1 h2
    rw [Nat.zero_add] at h5
    refine hF.block k (h.mem.there k (List.mem_of_getElem? h3)) (fun hx => ?_)
    obtain ⟨j, b', hj, h6, h7, h8⟩ := inD k hx
    exact h5 (h.mem.nd i j b b' k h4 h6 h2 h7 h3 h8 ▸ hj)
/-- What is known of the start's memory holds on. -/
def Md.ok (D δ : List Nat) (w1 : World) (σ : St) (a : Act) (w : World) : Md → Prop
  | .same => w = w1 ∧ ∀ i, i ∈ D → ∃ b, σ.bx[i]? = some b ∧ b ≠ .hid
  | .old τ => Fw δ w1 w ∧ ∃ μ ok, Rl μ ok τ a w1 ∧ (∀ i, i ∈ D → ∃ b, τ.bx[i]? = some b ∧ b ≠ .hid) ∧ δ = D.map fun i => μ.getD i 0
  | .gone => True
theorem Md.ok_fw {D δ : List Nat} {w1 : World} {σ : St} {a : Act} {w : World} {m : Md} (hm : m ≠ .gone) (h : m.ok D δ w1 σ a w) : Fw δ w1 w := by
  cases m with
  | same => have e : w = w1 := h.1; subst e; exact Fw.refl _ _
  | old τ => exact h.1
  | gone => exact absurd rfl hm
theorem putO_bx (σ : St) (d : Option Nat) (r : A) : (σ.putO d r).bx = σ.bx := by
  cases d with
  | none => rfl
  | some d => show (if _ then _ else _ : St).bx = _; split <;> rfl
theorem Md.ok_put {D δ : List Nat} {w1 : World} {σ : St} {a : Act} {w : World} {m : Md} (d : Option Nat) (x : A) (v : Value) (h : m.ok D δ w1 σ a w) : (m.junk d).ok D δ w1 (σ.putO d x) (a.put d v) w := by
  cases m with
  | same => exact ⟨h.1, by rw [putO_bx]; exact h.2⟩
  | old τ =>
    obtain ⟨h1, μ, ok, h2, h3, h4⟩ := h
    exact ⟨h1, μ, ok, h2.put d (r := .junk) trivial, by rw [putO_bx]; exact h3, h4⟩
  | gone => trivial
theorem Md.ok_after {D δ : List Nat} {w1 : World} {ν : List Nat} {σ σ' : St} {a : Act} {w w' : World} {m : Md} (hm : m ≠ .gone) (d : Option Nat) (v : Value) (hR : RelX ok0 μ0 w0 ν σ a w) (hδ : δ = D.map fun i => (μ0 ++ ν).getD i 0) (h : m.ok D δ w1 σ a w) (hb : Fw δ w w') : (m.after σ d).ok D δ w1 σ' (a.put d v) w' := by
  cases m with
  | same =>
    obtain ⟨e, h3⟩ := h
    subst e
    obtain ⟨ok, _, h2, _⟩ := hR
    exact ⟨hb, _, ok, h2.put d (r := .junk) trivial, by rw [putO_bx]; exact h3, hδ⟩
  | old τ =>
    obtain ⟨h1, μ, ok, h2, h3, h4⟩ := h
    exact ⟨h1.trans hb, μ, ok, h2.put d (r := .junk) trivial, by rw [putO_bx]; exact h3, h4⟩
  | gone => exact absurd rfl hm
theorem getD_more {l r : List Nat} {i : Nat} (h : i < l.length) : (l ++ r).getD i 0 = l.getD i 0 := by
  rw [List.getD_eq_getElem?_getD, List.getD_eq_getElem?_getD, List.getElem?_append_left h]
theorem aplan_ok (hT : ∀ t i, T t = some i → TyOK P t i) {ops : Array Oper} {Q : Exit → Act → World → Prop} {k : St → Prop} {w1 : World} {ds D δ : List Nat} {B : List Nat} {Tb : Bool × List (List Nat × List Nat)}
    (hpan : ∀ c (a : Act) d v w, Q (.panic c) (a.put d v) w → Q (.panic c) a w) (hQ : ∀ σ a w, Rel ok0 μ0 w0 σ a w → k σ → Q .normal a w) (hTb : rtab .any ops = Tb) (h1 : Tb.1 = true) (hB : waitsOk Tb.2 B = true) :
    ∀ (p : List Sp) (l : List Bool) (n : Nat) (m : Md) (ν : List Nat) (σ : St) (a : Act) (w : World), p.length = n → planT Tb B ds p l = true → RelX ok0 μ0 w0 ν σ a w → (∀ i, i ∈ D → i < (μ0 ++ ν).length) → (δ = D.map fun i => (μ0 ++ ν).getD i 0) → m.ok D δ w1 σ a w → aplan P T ops D p m σ k →
      wpAnyLast P .any ops Q (fun w' => Fw δ w1 w') ds n l.toArray a w
  | [], l, n, m, ν, σ, a, w, hn, hp, hR, hDl, hδ, hm, he => done_ (done_of hTb (by simpa [planT] using hp)) (hQ σ a w ⟨ν, hR⟩ he)
  | .take i :: r, l, n, m, ν, σ, a, w, hn, hp, hR, hDl, hδ, hm, he => by
    subst hn
    simp only [planT, Bool.and_eq_true] at hp
    obtain ⟨⟨⟨⟨hp1, hp2⟩, hp3⟩, hp4⟩, hp5⟩ := hp
    unfold aplan at he
    split at he
    · rename_i o ho
      have hc : takeB .any ops ds l.toArray (l.set i true).toArray i = true := take_ofW hTb hB (by simp [takeW, h1, hp1, hp2, hp3, hp4])
      -- from what is told at the start: the value
      have step : ∀ {τ : St} {μ1 : List Nat} {ok1 : Nat → Prop} {p : Prop} {x : A}, Rl μ1 ok1 τ a w1 → (∀ i, i ∈ D → ∃ b, τ.bx[i]? = some b ∧ b ≠ .hid) → (δ = D.map fun i => μ1.getD i 0) → Fw δ w1 w → areg T ops o (τ.hide D) = some (p, x) → p →
          (∀ v, RA (RL μ1 ok1 w1) x v → ((Region.wanted o (yielded ops a.tmps) = true ∧ (execOp a.eval o).run P w = .ok (.value v) w) ∨ (Region.wanted o (yielded ops a.tmps) = false ∧ v = undef)) → wpAnyLast P .any ops Q (fun w' => Fw δ w1 w') ds r.length (l.set i true).toArray (a.put o.dst v) w) →
          wpAnyLast P .any ops Q (fun w' => Fw δ w1 w') ds (r.length + 1) l.toArray a w := by
        intro τ μ1 ok1 p x hR1 hD1 hδ1 hS ha hp hnext
        obtain ⟨v, h4, h5⟩ := areg_ok hT (hR1.hide D) ha hp
        have hag : ∀ w', Fw δ w1 w' → Ag μ1 ok1 (τ.hide D).bx w1 w' := fun w' hb => Ag.fw hR1 hD1 (hδ1 ▸ hb)
        refine take_ (i := i) (N := o.dst) (v := v) (l.set i true).toArray ho rfl hc (fun c a w => hpan c a _ _ w) ?_ hS rfl (hnext v h4 ?_)
        · rcases h5 with ⟨h5, h6⟩ | ⟨h5, h6⟩
          · exact .inl ⟨h5, fun w' hb => h6 w' (.inr (hag w' hb))⟩
          · exact .inr ⟨h5, h6⟩
        · rcases h5 with ⟨h5, h6⟩ | ⟨h5, h6⟩
          · exact .inl ⟨h5, h6 w (.inr (hag w hS))⟩
          · exact .inr ⟨h5, h6⟩
      split at he
      · obtain ⟨e, hD1⟩ := hm
        subst e
        split at he
        · rename_i p x ha
          obtain ⟨ok, h0, hRl, hO⟩ := id hR
          refine step hRl hD1 hδ (Fw.refl _ _) ha he.1 fun v hv _ => ?_
          exact aplan_ok hT hpan hQ hTb h1 hB r _ _ .same ν _ _ _ rfl hp5 ⟨ok, by rw [putO_m]; exact h0, hRl.put o.dst hv, hO⟩ hDl hδ ⟨rfl, by rw [putO_bx]; exact hD1⟩ he.2
        · exact he.elim
      · rename_i τ
        obtain ⟨hS, μ1, ok1, hR1, hD1, hδ1⟩ := hm
        split at he
        · rename_i p x p' x' ha ha'
          obtain ⟨hq1, hq2, hq3⟩ := he
          refine step hR1 hD1 hδ1 hS ha hq1 fun v hv hrun => ?_
          obtain ⟨ok, h0, hRl, hO⟩ := id hR
          obtain ⟨v', h4, h5⟩ := areg_ok hT hRl ha' hq2
          have e : v' = v := by
            rcases h5 with ⟨h5, h6⟩ | ⟨h5, h6⟩ <;> rcases hrun with ⟨h7, h8⟩ | ⟨h7, h8⟩
            · have h6 := h6 w (.inr (Ag.refl _ _ _ _))
              rw [h8] at h6
              simp only [Result.ok.injEq, Next.value.injEq, and_true] at h6
              exact h6.symm
            · rw [h5] at h7; cases h7
            · rw [h5] at h7; cases h7
            · rw [h6, h8]
          subst e
          exact aplan_ok hT hpan hQ hTb h1 hB r _ _ (.old (τ.putO o.dst x)) ν _ _ _ rfl hp5 ⟨ok, by rw [putO_m]; exact h0, hRl.put o.dst h4, hO⟩ hDl hδ ⟨hS, μ1, ok1, hR1.put o.dst hv, by rw [putO_bx]; exact hD1, hδ1⟩ hq3
        · exact he.elim
      · exact he.elim
    · exact he.elim
  | .pure i :: r, l, n, m, ν, σ, a, w, hn, hp, hR, hDl, hδ, hm, he => by
    subst hn
    simp only [planT, Bool.and_eq_true] at hp
    obtain ⟨⟨hp1, hp2⟩, hp5⟩ := hp
    unfold aplan at he
    split at he
    · rename_i o ho
      split at he
      · rename_i p x ha
        obtain ⟨hq1, hq2, hq3⟩ := he
        obtain ⟨ok, h0, hRl, hO⟩ := id hR
        obtain ⟨v, h4, h5⟩ := areg_ok hT hRl ha hq2
        refine pure_ (i := i) (N := o.dst) (v := v) (l.set i true).toArray ho rfl (any_of hTb (by simp [anyT, h1, hp1, hp2])) (fun c a w => hpan c a _ _ w) ?_ rfl ?_
        · rcases h5 with ⟨h5, h6⟩ | ⟨h5, h6⟩
          · exact .inl ⟨h5, fun w' => h6 w' (.inl hq1)⟩
          · exact .inr ⟨h5, h6⟩
        · exact aplan_ok hT hpan hQ hTb h1 hB r _ _ _ ν _ _ _ rfl hp5 ⟨ok, by rw [putO_m]; exact h0, hRl.put o.dst h4, hO⟩ hDl hδ (Md.ok_put o.dst x v hm) hq3
      · exact he.elim
    · exact he.elim
  | .one i :: r, l, n, m, ν, σ, a, w, hn, hp, hR, hDl, hδ, hm, he => by
    subst hn
    simp only [planT, Bool.and_eq_true] at hp
    obtain ⟨⟨hp1, hp2⟩, hp5⟩ := hp
    unfold aplan at he
    split at he
    · exact he.elim
    · rename_i hne
      have hne : m ≠ .gone := hne
      split at he
      · rename_i o ho
        refine one_ (i := i) (N := o.dst) (l.set i true).toArray ho rfl (one_of hTb (by simpa using hp1)) (by simpa using hp2) fun K hK => ?_
        refine aoper_ok hT hR he fun ν2 σ' v w' h3 h4 h5 => ?_
        have hw := h4 D rfl
        rw [← hδ] at hw
        have h6 := Md.ok_after (σ' := σ') hne o.dst v hR hδ hm hw
        have hb := (Md.ok_fw hne hm).trans hw
        have hDl2 : ∀ i, i ∈ D → i < (μ0 ++ (ν ++ ν2)).length := fun i hi => by have := hDl i hi; rw [← List.append_assoc, List.length_append]; omega
        have hδ2 : δ = D.map fun i => (μ0 ++ (ν ++ ν2)).getD i 0 := by
          rw [hδ]
          refine List.map_congr_left fun i hi => ?_
          rw [← List.append_assoc, getD_more (hDl i hi)]
        exact hK.out _ _ hb fun _ => aplan_ok hT hpan hQ hTb h1 hB r _ _ _ (ν ++ ν2) _ _ _ rfl hp5 h3 hDl2 hδ2 h6 h5
      · exact he.elim
  | .last i :: r, l, n, m, ν, σ, a, w, hn, hp, hR, hDl, hδ, hm, he => by
    subst hn
    simp only [planT, Bool.and_eq_true] at hp
    obtain ⟨⟨hp1, hp2⟩, hp5⟩ := hp
    unfold aplan at he
    split at he
    · rename_i o ho
      refine last_ (i := i) (N := o.dst) (l.set i true).toArray ho rfl (one_of hTb (by simpa using hp1)) (by simpa using hp2) fun K hK => ?_
      refine aoper_ok hT hR he fun ν2 σ' v w' h3 h4 h5 => ?_
      have hDl2 : ∀ i, i ∈ D → i < (μ0 ++ (ν ++ ν2)).length := fun i hi => by have := hDl i hi; rw [← List.append_assoc, List.length_append]; omega
      have hδ2 : δ = D.map fun i => (μ0 ++ (ν ++ ν2)).getD i 0 := by
        rw [hδ]
        refine List.map_congr_left fun i hi => ?_
        rw [← List.append_assoc, getD_more (hDl i hi)]
      exact hK.out _ _ (aplan_ok hT hpan hQ hTb h1 hB r _ _ .gone (ν ++ ν2) _ _ _ rfl hp5 h3 hDl2 hδ2 trivial h5)
    · exact he.elim
def AE.out : AE → Exit
  | .normal => .normal
  | .exit id => .exit id
  | .ret => .ret
theorem least {p : Nat → Prop} (h : ∃ n, p n) : ∃ n, p n ∧ ∀ m, p m → n ≤ m := by
  obtain ⟨n, hn⟩ := h
  induction n using Nat.strongRecOn with
  | _ n ih =>
    by_cases hm : ∃ m, m < n ∧ p m
    · obtain ⟨m, h1, h2⟩ := hm
      exact ih m h1 h2
    · exact ⟨n, hn, fun m hp => by
        rcases Nat.lt_or_ge m n with hlt | hge
        · exact absurd ⟨m, hlt, hp⟩ hm
        · exact hge⟩
open Classical in
noncomputable def leastN (p : Nat → Prop) : Nat := if h : ∃ n, p n then (least h).choose else 0
theorem leastN_spec {p : Nat → Prop} {n : Nat} (h : p n) : p (leastN p) ∧ leastN p ≤ n := by
  have hx : ∃ n, p n := ⟨n, h⟩
  have e : leastN p = (least hx).choose := dif_pos hx
  rw [e]
  exact ⟨(least hx).choose_spec.1, (least hx).choose_spec.2 n h⟩
/-- The second reading is sound: what awp says of the content holds of the run. -/
theorem awp_ok (hT : ∀ t i, T t = some i → TyOK P t i) (hmx : P.follows .mixedOrders = true) : ∀ (c : Code) (Q : AE → St → Prop) (Q' : Exit → Act → World → Prop) (σ : St) (a : Act) (w : World), Rel ok0 μ0 w0 σ a w → awp P T c Q σ →
    (∀ e σ a w, Rel ok0 μ0 w0 σ a w → Q e σ → Q' e.out a w) → (∀ c (a : Act) d v w, Q' (.panic c) (a.put d v) w → Q' (.panic c) a w) → c.wp P Q' a w := by
  intro c
  induction c with
  | skip => intro Q Q' σ a w h he hq hpan; exact wp_skip (hq .normal σ a w h he)
  | region id ops d =>
    intro Q Q' σ a w h he hq hpan
    cases d with
    | true =>
      obtain ⟨p, D, hp, hD, he⟩ := he
      obtain ⟨ν, h⟩ := h
      have hD1 : ∀ i, i ∈ D → ∃ b, σ.bx[i]? = some b ∧ b ≠ .hid := by
        intro i hi
        have := List.all_eq_true.1 hD i hi
        cases hb : σ.bx[i]? with
        | none => rw [hb] at this; cases this
        | some b => exact ⟨b, rfl, fun e => by rw [hb, e] at this; cases this⟩
      have hDl : ∀ i, i ∈ D → i < (μ0 ++ ν).length := by
        intro i hi
        obtain ⟨b, hb, _⟩ := hD1 i hi
        obtain ⟨ok, _, hR, _⟩ := h
        rw [hR.mem.len]; exact at_in hb
      simp only [planB, Bool.and_eq_true, beq_iff_eq] at hp
      obtain ⟨⟨⟨hp1, hp2⟩, hp3⟩, hp4⟩ := hp
      refine start_ (S := fun w' => Fw (D.map fun i => (μ0 ++ ν).getD i 0) w.drew w') (ds := lasts p) (Array.replicate ops.size false) hmx rfl rfl (Fw.refl _ _) fun _ => ?_
      have := aplan_ok (Q := Q') hT hpan (fun σ a w h1 h2 => hq .normal σ a w h1 h2) rfl hp1 hp2 p (List.replicate ops.size false) ops.size .same ν σ a w.drew hp3 hp4 h.drew hDl rfl ⟨rfl, hD1⟩ he
      simpa using this
    | false =>
      obtain ⟨ν, h⟩ := h
      exact wp_region_list (aops_ok hT (k := Q .normal) (fun σ a w h1 h2 => hq .normal σ a w h1 h2) _ _ _ _ _ h he)
  | seq x y ihx ihy =>
    intro Q Q' σ a w h he hq hpan
    refine wp_seq (ihx _ (Exit.then (y.wp P Q') Q') σ a w h he (fun e σ a w h1 h2 => ?_) hpan)
    cases e with
    | normal =>
      rcases h2 with h2 | ⟨ks, js, hg, h2⟩
      · exact ihy Q Q' σ a w h1 h2 hq hpan
      · exact ihy Q Q' _ a w (h1.keep ks js hg) h2 hq hpan
    | exit id => exact hq (.exit id) σ a w h1 h2
    | ret => exact hq .ret σ a w h1 h2
  | cond c x y ihx ihy =>
    intro Q Q' σ a w h he hq hpan
    have he : acond (strip (σ.ev c)) (awp P T x Q σ) (awp P T y Q σ) := he
    unfold acond at he
    split at he
    · rename_i g t heq
      obtain ⟨rfl, h1, h2⟩ := he
      have hc : a.eval c = .bool t := by
        obtain ⟨ν, ok, _, hR, _⟩ := h
        have := SR.of (ev_ok hR c)
        rw [heq] at this
        exact this rfl
      exact wp_cond_split hc (fun ht => ihx Q Q' σ a w h (h1 ht) hq hpan) (fun ht => ihy Q Q' σ a w h (h2 ht) hq hpan)
    · exact he.elim
  | block id x ih =>
    intro Q Q' σ a w h he hq hpan
    refine wp_block (ih _ (Exit.inBlock id Q') σ a w h he (fun e σ a w h1 h2 => ?_) hpan)
    cases e with
    | normal => exact hq .normal σ a w h1 h2
    | ret => exact hq .ret σ a w h1 h2
    | exit i =>
      show (if i = id then Q' .normal a w else Q' (.exit i) a w)
      by_cases e : i = id
      · rw [if_pos e]
        have h2 : (if i = id then Q .normal σ else Q (.exit i) σ) := h2
        rw [if_pos e] at h2
        exact hq .normal σ a w h1 h2
      · rw [if_neg e]
        have h2 : (if i = id then Q .normal σ else Q (.exit i) σ) := h2
        rw [if_neg e] at h2
        exact hq (.exit i) σ a w h1 h2
  | loop x ih =>
    intro Q Q' σ a w h he hq hpan
    obtain ⟨ks, js, I, n, hg, h0, hround⟩ := he
    have hI : ∀ {a w}, (∃ n σ', Rel ok0 μ0 w0 σ' a w ∧ I n σ') → ∃ σ', Rel ok0 μ0 w0 σ' a w ∧ I (leastN fun n => ∃ σ', Rel ok0 μ0 w0 σ' a w ∧ I n σ') σ' := fun {a w} ⟨n, h⟩ => (leastN_spec (p := fun n => ∃ σ', Rel ok0 μ0 w0 σ' a w ∧ I n σ') h).1
    refine wp_loop (fun a w => ∃ n σ', Rel ok0 μ0 w0 σ' a w ∧ I n σ') (fun a w => leastN fun n => ∃ σ', Rel ok0 μ0 w0 σ' a w ∧ I n σ') ⟨n, _, h.keep ks js hg, h0⟩ fun a1 w1 h1 => ?_
    obtain ⟨σ1, h2, h3⟩ := hI h1
    refine ih _ _ σ1 a1 w1 h2 (hround _ _ h3) (fun e σ2 a2 w2 h4 h5 => ?_) hpan
    cases e with
    | normal =>
      obtain ⟨m, js', hm, hg', h6⟩ := h5
      have h7 : ∃ σ', Rel ok0 μ0 w0 σ' a2 w2 ∧ I m σ' := ⟨_, h4.keep ks js' hg', h6⟩
      exact ⟨⟨m, h7⟩, Nat.lt_of_le_of_lt (leastN_spec (p := fun n => ∃ σ', Rel ok0 μ0 w0 σ' a2 w2 ∧ I n σ') h7).2 hm⟩
    | exit id => exact hq (.exit id) σ2 a2 w2 h4 h5
    | ret => exact hq .ret σ2 a2 w2 h4 h5
  | exit id => intro Q Q' σ a w h he hq hpan; exact wp_exit (hq (.exit id) σ a w h he)
  | ret => intro Q Q' σ a w h he hq hpan; exact wp_ret (hq .ret σ a w h he)
  | scope x ih =>
    intro Q Q' σ a w h he hq hpan
    refine wp_scope_straight (ih Q (Exit.noGoto Q') σ a w h he (fun e σ a w h1 h2 => ?_) hpan)
    cases e with
    | normal => exact hq .normal σ a w h1 h2
    | exit id => exact hq (.exit id) σ a w h1 h2
    | ret => exact hq .ret σ a w h1 h2
  | _ => intro Q Q' σ a w h he hq hpan; exact he.elim
end
end Go.Proofs.YtdedmhmomoejkaaDoor.V
