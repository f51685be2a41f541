import Derived.Test.YtdedmhmomoejkaaDoorV2
namespace Go.Proofs.YtdedmhmomoejkaaDoor.V
open Go Go.RowKit Go.Proofs.YtdedmhmomoejkaaDoorW.PrintLast
set_option linter.unusedVariables false
set_option linter.unusedSimpArgs false
/-! Third part: what only reads. -/
section
variable {P : Program} {T : Ty} {w : World}
theorem run_size {t : TypeId} {i : TI} (h : TyOK P t i) : (sizeOf t).run P w = .ok i.size w := by
  obtain ⟨j, z, h1, h2, _⟩ := h.info
  simp [sizeOf, typeInfo, h1, h2]
theorem run_zero {t : TypeId} {i : TI} (h : TyOK P t i) : ∃ z : Value, (zeroValue t).run P w = .ok z w ∧ z.cells.toList = i.zero := by
  obtain ⟨j, z, h1, h2, h3, h4, h5⟩ := h.info
  exact ⟨z, by simp [zeroValue, typeInfo, h1, h4], h5⟩
theorem run_under {t : TypeId} {d : TypeDesc} (h : P.underlying t = some d) : (underlying t).run P w = .ok d w := by simp [underlying, h]
theorem run_agg {t : TypeId} {i : TI} (h : TyOK P t i) : (isAgg t).run P w = .ok i.agg w := by
  obtain ⟨k, sz, by_, z⟩ := i
  have hk := h.kind
  cases k with
  | prim d =>
    simp only at hk
    obtain ⟨h1, h2, h3⟩ := hk
    simp only [isAgg, Sem.run_bind, run_under h1, Result.andThen_ok, TI.agg]
    cases d with
    | struct fs => exact absurd rfl (h2 fs)
    | array n e => exact absurd rfl (h3 n e)
    | _ => rfl
  | struct fs e =>
    simp only at hk
    obtain ⟨fa, h1, _⟩ := hk
    simp [isAgg, run_under h1, TI.agg]
  | slice e =>
    simp only at hk
    simp [isAgg, run_under hk, TI.agg]
  | array n e =>
    simp only at hk
    simp [isAgg, run_under hk, TI.agg]
/-- What a variable's cells come to. -/
def mkV (i : TI) (cs : List Value) : Value := if i.agg then .agg cs.toArray else cs.headD undef
theorem run_loadVar {t : TypeId} {i : TI} (h : TyOK P t i) (a : Addr) (cs : List Value) (hl : cs.length = i.size) (hp : 0 < i.size) (hc : ∀ j v, cs[j]? = some v → w.cell? (a.add j) = some v) : (loadVar t a).run P w = .ok (mkV i cs) w := by
  unfold loadVar mkV
  cases hb : i.agg with
  | true =>
    have := run_loadCells_list (P := P) w a cs hc
    rw [hl] at this
    simp [run_agg h, hb, run_size h, this]
  | false =>
    cases cs with
    | nil => simp at hl; omega
    | cons x r =>
      have := hc 0 x rfl
      rw [add_zero] at this
      simp [run_agg h, hb, this]
theorem mk_ok {R : L → Value → Prop} {t : TypeId} {i : TI} (hi : T t = some i) {ls : List L} {cs : List Value} (h : RLs R ls cs) (hp : 0 < cs.length) : RA R (mk T t ls) (mkV i cs) := by
  unfold mk mkV Ty.isAgg
  rw [hi]
  simp only
  by_cases hb : i.agg = true
  · rw [if_pos hb, if_pos hb]
    exact ⟨cs.toArray, rfl, by simpa using h⟩
  · rw [if_neg hb, if_neg hb]
    cases cs with
    | nil => simp at hp
    | cons x r =>
      cases ls with
      | nil => have := h.1; simp at this
      | cons l ls =>
        obtain ⟨v, h1, h2⟩ := h.2 0 l rfl
        obtain rfl : x = v := by simpa using h1
        exact h2
theorem run_part {ft : TypeId} {i : TI} (h : TyOK P ft i) (hp : 0 < i.size) (cs : Array Value) (off : Nat) (hl : off + i.size ≤ cs.size) : (part ft cs off).run P w = .ok (mkV i ((cs.toList.drop off).take i.size)) w := by
  unfold part mkV
  by_cases hb : i.agg = true
  · simp only [Sem.run_bind, run_agg h, Result.andThen_ok, hb, if_true, run_size h, Sem.run_pure]
    congr 2
    apply Array.ext'
    simp [List.extract_eq_take_drop]
  · have hb' : i.agg = false := by simpa using hb
    have hc : cs[off]? = some (cs[off]'(by omega)) := Array.getElem?_eq_getElem (by omega)
    simp only [Sem.run_bind, run_agg h, Result.andThen_ok, hb', Bool.false_eq_true, if_false, hc, Sem.run_pure]
    congr 1
    have : (cs.toList.drop off) = cs[off]'(by omega) :: cs.toList.drop (off + 1) := by
      rw [List.drop_eq_getElem_cons (by simp; omega)]; simp
    rw [this]
    cases hz : i.size with
    | zero => omega
    | succ n => simp
theorem known_some {t : TypeId} (h : T.known t = true) : ∃ i, T t = some i ∧ T.size t = i.size := by
  unfold Ty.known at h
  obtain ⟨i, hi⟩ := Option.isSome_iff_exists.1 h
  exact ⟨i, hi, by unfold Ty.size; rw [hi]⟩
theorem size_some {t : TypeId} (h : 0 < T.size t) : ∃ i, T t = some i ∧ T.size t = i.size := by
  unfold Ty.size at h ⊢
  cases hi : T t with
  | none => rw [hi] at h; simp at h
  | some i => exact ⟨i, rfl, rfl⟩
def SR (R : L → Value → Prop) (x : Bool × A) (u : Value) : Prop := x.1 = true → RA R x.2 u
theorem SR.of {R : L → Value → Prop} {a : A} {u : Value} (h : RA R a u) : SR R (strip a) u := fun hs => RA_strip a u h hs
variable {μ : List Nat} {ok : Nat → Prop}
/-- Another world, alike in what is told. -/
def Ag (μ : List Nat) (ok : Nat → Prop) (bx : List B) (w w' : World) : Prop := ∀ k, (ok k ∨ ∃ (i : Nat) (b : B), bx[i]? = some b ∧ b ≠ .hid ∧ μ[i]? = some k) → w'.heap[k]? = w.heap[k]?
theorem Ag.refl (μ : List Nat) (ok : Nat → Prop) (bx : List B) (w : World) : Ag μ ok bx w w := fun _ _ => rfl
theorem cell_ag {w w' : World} (a : Addr) (h : w'.heap[a.block]? = w.heap[a.block]?) (j : Nat) : w'.cell? (a.add j) = w.cell? (a.add j) := by
  unfold World.cell?
  rw [add_block, h]
theorem prim_under {t : TypeId} {d : TypeDesc} {a b : Nat} {z : List Value} (hT : ∀ t i, T t = some i → TyOK P t i) (h : T t = some ⟨.prim d, a, b, z⟩) : P.underlying t = some d := (hT _ _ h).kind.1
theorem slice_under {t e : TypeId} {a b : Nat} {z : List Value} (hT : ∀ t i, T t = some i → TyOK P t i) (h : T t = some ⟨.slice e, a, b, z⟩) : P.underlying t = some (.slice e) := (hT _ _ h).kind
theorem struct_under {t : TypeId} {fs : List (Nat × TypeId)} {e : Bool} {a b : Nat} {z : List Value} (hT : ∀ t i, T t = some i → TyOK P t i) (h : T t = some ⟨.struct fs e, a, b, z⟩) : ∃ fa : Array Field, P.underlying t = some (.struct fa) ∧ fa.toList.map (fun f => (f.offset, f.type)) = fs :=
  let ⟨fa, h1, h2, _⟩ := (hT _ _ h).kind; ⟨fa, h1, h2⟩
theorem iop_ok (op : BinOp) (t : TypeId) (k k' : IntKind) (a b : Int) (h : (iop op k a k' b).1) : (binOp op t (.int k a) (.int k' b)).run P w = .ok (iop op k a k' b).2 w := by
  have hb : ∀ x y : Int, (x == y) = decide (x = y) := fun x y => by rw [Bool.eq_iff_iff]; simp
  have hn : ∀ x y : Int, (x != y) = !decide (x = y) := fun x y => by rw [bne, hb]
  cases op <;> simp only [iop] at h ⊢ <;> first
    | exact h.elim
    | (subst h; simp [binOp, Op.intArith, Op.intCmp, Op.intBits]; done)
    | (subst h; simp only [binOp, Op.intCmp, ne_eq, not_true_eq_false, if_false, hb, hn]; rfl)
    | (obtain ⟨h1, h2⟩ := h; subst h1; simp [binOp, Op.intDiv, h2]; done)
    | (have : ¬ b < 0 := by omega
       simp [binOp, Op.shift, this]; done)
theorem bytes_eq (x y : ByteArray) : (x.toList == y.toList) = decide (x = y) := by
  rw [Bool.eq_iff_iff]
  simp only [beq_iff_eq, decide_eq_true_eq]
  refine ⟨fun h => ?_, fun h => by rw [h]⟩
  rw [ByteArray.toList_eq, ByteArray.toList_eq] at h
  exact ByteArray.ext (Array.ext' h)
theorem bytes_beq (x y : ByteArray) : (x == y) = decide (x = y) := by
  have h : (x == y) = (x.data == y.data) := rfl
  rw [h, Bool.eq_iff_iff]
  simp only [beq_iff_eq, decide_eq_true_eq]
  exact ⟨ByteArray.ext, fun h => by rw [h]⟩
theorem sop_ok (op : BinOp) (t : TypeId) (a b : ByteArray) (h : (sop op a b).1) : (binOp op t (.string a) (.string b)).run P w = .ok (sop op a b).2 w := by
  cases op <;> simp only [sop] at h ⊢ <;> first
    | exact h.elim
    | (simp [binOp, Op.stringOp, bytes_eq]; done)
    | (have hm : ¬ (((a.size + b.size : Nat) : Int) > IntKind.i64.max) := by
         have : IntKind.i64.max = 9223372036854775807 := by decide
         omega
       simp only [binOp, Op.stringOp, if_neg hm]; rfl)
theorem eqv_ok (hT : ∀ t i, T t = some i → TyOK P t i) : ∀ (d D : Nat) (t : TypeId) (x y : A) (u v : Value), d ≤ D → RA (RL μ ok w) x u → RA (RL μ ok w) y v → (eqv T d t x y).1 → ∀ w' : World, (Op.equalIn D t u v).run P w' = .ok (eqv T d t x y).2 w' := by
  intro d
  induction d with
  | zero => intro D t x y u v _ _ _ h; exact h.elim
  | succ d ih =>
    intro D t x y u v hD hx hy h w'
    obtain ⟨D, rfl⟩ : ∃ E, D = E + 1 := ⟨D - 1, by omega⟩
    unfold eqv at h ⊢
    split at h
    · rename_i hTs
      split at h
      · have e1 : u = _ := hx
        have e2 : v = _ := hy
        subst e1 e2
        simp only at h
        simp [Op.equalIn, run_under (prim_under hT hTs), h]
        rw [Bool.eq_iff_iff]; simp
      · exact h.elim
    · rename_i hTs
      split at h
      · have e1 : u = _ := hx
        have e2 : v = _ := hy
        subst e1 e2
        simp [Op.equalIn, run_under (prim_under hT hTs)]
      · exact h.elim
    · rename_i hTs
      split at h
      · have e1 : u = _ := hx
        have e2 : v = _ := hy
        subst e1 e2
        simp only [Op.equalIn, Sem.run_bind, run_under (prim_under hT hTs), Result.andThen_ok, Sem.run_pure, bytes_beq]
      · exact h.elim
    · rename_i hTs
      split at h
      · obtain ⟨g, _, e1⟩ := hx
        have e2 : v = _ := hy
        subst e1 e2
        simp [Op.equalIn, run_under (prim_under hT hTs)]
      · obtain ⟨g, _, e1⟩ := hy
        have e2 : u = _ := hx
        subst e1 e2
        simp [Op.equalIn, run_under (prim_under hT hTs)]
      · obtain ⟨g, e1, _⟩ := hx
        have e2 : v = _ := hy
        subst e1 e2
        simp [Op.equalIn, run_under (prim_under hT hTs)]
      · have e1 : u = _ := hx
        have e2 : v = _ := hy
        subst e1 e2
        simp [Op.equalIn, run_under (prim_under hT hTs)]
      · exact h.elim
    · rename_i fs _ _ _ hTs
      split at h
      · rename_i xs ys
        obtain ⟨fa, hu, hfs, he⟩ := (hT _ _ hTs).kind
        obtain ⟨he1, he2, he3⟩ := he rfl
        obtain ⟨cs, rfl, hcs⟩ := hx
        obtain ⟨ds, rfl, hds⟩ := hy
        have hf : P.fieldsOf t = fa := by simp [Program.fieldsOf, hu]
        rw [run_equalIn_struct (P := P) (w := w') D t cs ds (by rw [hf]; exact hu) he1, hf]
        subst hfs
        have he3 : ∀ f, f ∈ fa.toList → f.name ≠ "_" := fun f hf => by simpa using List.all_eq_true.1 he3 f hf
        generalize fa.toList = l at h he3 ⊢
        clear hf hu hTs
        induction l with
        | nil => simp [Op.eqFields]
        | cons f l ihl =>
          simp only [List.map_cons, List.foldr_cons] at h ⊢
          obtain ⟨h1, h2, h3, h4, h5, h6⟩ := h
          have hr := ihl h6 (fun g hg => he3 g (List.mem_cons_of_mem _ hg))
          obtain ⟨i, hi, hs⟩ := known_some h1
          have hcl : cs.toList.length = cs.size := Array.length_toList
          have hdl : ds.toList.length = ds.size := Array.length_toList
          have hc1 := hcs.1
          have hd1 := hds.1
          have ha := fun w => run_part (w := w) (hT _ _ hi) (by omega) cs f.offset (by omega)
          have hb := fun w => run_part (w := w) (hT _ _ hi) (by omega) ds f.offset (by omega)
          have hma := mk_ok (T := T) hi ((hcs.drop f.offset).take (T.size f.type)) (by rw [List.length_take, List.length_drop]; omega)
          have hmb := mk_ok (T := T) hi ((hds.drop f.offset).take (T.size f.type)) (by rw [List.length_take, List.length_drop]; omega)
          rw [hs] at hma hmb h5
          have hq := ih D f.type _ _ _ _ (by omega) hma hmb h5 w'
          rw [hs]
          rw [Op.eqFields]
          simp only [if_pos (he3 f List.mem_cons_self), Sem.run_bind, ha, hb, hq, Result.andThen_ok]
          cases hz : (eqv T d f.type (mk T f.type ((xs.drop f.offset).take i.size)) (mk T f.type ((ys.drop f.offset).take i.size))).2
          · simp
          · simpa using hr
      · exact h.elim
    · exact h.elim
theorem pEq_ok (hT : ∀ t i, T t = some i → TyOK P t i) {op : BinOp} {t : TypeId} {ox oy : Operand} {x y : Bool × A} {u v : Value} (hx : SR (RL μ ok w) x u) (hy : SR (RL μ ok w) y v) (h : (pEq T t op x y).1) :
    ∃ r, (∀ w' : World, True → (do eqGuard op t ox oy u v; binOp op t u v : Sem Value).run P w' = .ok r w') ∧ RA (RL μ ok w) (pEq T t op x y).2 r := by
  have key : ∀ f : Bool → Bool, (op = .eql ∧ f = fun b => b) ∨ (op = .neq ∧ f = fun b => !b) → x.1 = true → y.1 = true → (eqv T 10 t x.2 y.2).1 → ∀ w' : World, (do eqGuard op t ox oy u v; binOp op t u v : Sem Value).run P w' = .ok (.bool (f (eqv T 10 t x.2 y.2).2)) w' := by
    intro f hop hx1 hy1 he w'
    have hx := hx hx1
    have hy := hy hy1
    have hq : (Op.equal t u v).run P w' = _ := eqv_ok hT 10 10000 t x.2 y.2 u v (by omega) hx hy he w'
    have fin : (eqGuard op t ox oy u v).run P w' = .ok () w' → (op = .eql → (binOp .eql t u v : Sem Value) = (do pure (.bool (← Op.equal t u v)))) → (op = .neq → (binOp .neq t u v : Sem Value) = (do pure (.bool (!(← Op.equal t u v))))) → (do eqGuard op t ox oy u v; binOp op t u v : Sem Value).run P w' = .ok (.bool (f (eqv T 10 t x.2 y.2).2)) w' := by
      intro h1 h2 h3
      rcases hop with ⟨rfl, rfl⟩ | ⟨rfl, rfl⟩
      · simp only [Sem.run_bind, h1, Result.andThen_ok, h2 rfl, hq, Sem.run_pure]
      · simp only [Sem.run_bind, h1, Result.andThen_ok, h3 rfl, hq, Sem.run_pure]
    generalize hz : (eqv T 10 t x.2 y.2).2 = z at hq fin ⊢
    clear hx1 hy1
    obtain ⟨gx, x⟩ := x
    obtain ⟨gy, y⟩ := y
    simp only at hx hy he hz
    unfold eqv at he hz
    split at he
    · rename_i heq
      simp only [heq] at hz
      split at he
      · obtain rfl : u = _ := hx
        obtain rfl : v = _ := hy
        rename_i k a k' b
        simp only at he hz
        subst he
        have hg : (eqGuard op t ox oy (.int k a) (.int k b)).run P w' = .ok () w' := by cases op <;> rfl
        rcases hop with ⟨rfl, rfl⟩ | ⟨rfl, rfl⟩
        · rw [Sem.run_bind, hg, Result.andThen_ok, iop_ok .eql t _ _ _ _ rfl, ← hz]; rfl
        · rw [Sem.run_bind, hg, Result.andThen_ok, iop_ok .neq t _ _ _ _ rfl, ← hz]; rfl
      · exact he.elim
    · rename_i heq
      simp only [heq] at hz
      split at he
      · obtain rfl : u = _ := hx
        obtain rfl : v = _ := hy
        exact fin (by cases op <;> rfl) (fun _ => rfl) (fun _ => rfl)
      · exact he.elim
    · rename_i heq
      simp only [heq] at hz
      split at he
      · obtain rfl : u = _ := hx
        obtain rfl : v = _ := hy
        rename_i a b
        simp only at hz
        have hg : (eqGuard op t ox oy (.string a) (.string b)).run P w' = .ok () w' := by cases op <;> rfl
        rcases hop with ⟨rfl, rfl⟩ | ⟨rfl, rfl⟩
        · rw [Sem.run_bind, hg, Result.andThen_ok, sop_ok .eql t _ _ trivial, ← hz]; rfl
        · rw [Sem.run_bind, hg, Result.andThen_ok, sop_ok .neq t _ _ trivial, ← hz]; rfl
      · exact he.elim
    · split at he
      · obtain ⟨g, _, rfl⟩ := hx
        obtain rfl : v = _ := hy
        exact fin (by cases op <;> rfl) (fun _ => rfl) (fun _ => rfl)
      · obtain ⟨g, _, rfl⟩ := hy
        obtain rfl : u = _ := hx
        exact fin (by cases op <;> rfl) (fun _ => rfl) (fun _ => rfl)
      · obtain ⟨g, rfl, _⟩ := hx
        obtain rfl : v = _ := hy
        exact fin (by cases op <;> rfl) (fun _ => rfl) (fun _ => rfl)
      · obtain rfl : u = _ := hx
        obtain rfl : v = _ := hy
        exact fin (by cases op <;> rfl) (fun _ => rfl) (fun _ => rfl)
      · exact he.elim
    · rename_i fs _ _ _ hTs
      split at he
      · obtain ⟨cs, rfl, _⟩ := hx
        obtain ⟨ds, rfl, _⟩ := hy
        obtain ⟨fa, _, _, h3⟩ := (hT _ _ hTs).kind
        exact fin (run_eqGuard_agg (P := P) (w := w') op t ox oy cs ds (h3 rfl).2.1) (fun _ => rfl) (fun _ => rfl)
      · exact he.elim
    · exact he.elim
  unfold pEq at h ⊢
  cases op <;> simp only at h ⊢ <;> first
    | exact h.elim
    | (obtain ⟨h1, h2, h3⟩ := h
       exact ⟨_, fun w' _ => key (fun b => b) (.inl ⟨rfl, rfl⟩) h1 h2 h3 w', rfl⟩)
    | (obtain ⟨h1, h2, h3⟩ := h
       exact ⟨_, fun w' _ => key (fun b => !b) (.inr ⟨rfl, rfl⟩) h1 h2 h3 w', rfl⟩)
theorem pBin_ok (hT : ∀ t i, T t = some i → TyOK P t i) {op : BinOp} {t : TypeId} {ox oy : Operand} {x y : Bool × A} {u v : Value} (hx : SR (RL μ ok w) x u) (hy : SR (RL μ ok w) y v) (h : (pBin T t op x y).1) :
    ∃ r, (∀ w' : World, True → (do eqGuard op t ox oy u v; binOp op t u v : Sem Value).run P w' = .ok r w') ∧ RA (RL μ ok w) (pBin T t op x y).2 r := by
  unfold pBin at h ⊢
  split at h
  · obtain ⟨h1, h2, h3⟩ := h
    obtain rfl : u = _ := hx h1
    obtain rfl : v = _ := hy h2
    rename_i _ k a _ k' b
    refine ⟨_, fun w' _ => ?_, rfl⟩
    have hg : ∀ w' : World, (eqGuard op t ox oy (.int k a) (.int k' b)).run P w' = .ok () w' := fun w' => by cases op <;> rfl
    simp only [Sem.run_bind, hg, Result.andThen_ok, iop_ok op t _ _ _ _ h3]
  · obtain ⟨h1, h2, h3⟩ := h
    obtain rfl : u = _ := hx h1
    obtain rfl : v = _ := hy h2
    rename_i _ a _ b
    refine ⟨_, fun w' _ => ?_, rfl⟩
    have hg : ∀ w' : World, (eqGuard op t ox oy (.string a) (.string b)).run P w' = .ok () w' := fun w' => by cases op <;> rfl
    simp only [Sem.run_bind, hg, Result.andThen_ok, sop_ok op t _ _ h3]
  · exact pEq_ok hT hx hy h
theorem pickV_ok {R : L → Value → Prop} (hR : ∀ x u, R (.c (.v x)) u ↔ u = x) (t : Bool) (X Y : A) (u v : Value) (hx : t = true → RA R X u) (hy : t = false → RA R Y v) : RA R (pickV t X Y) (if t = true then u else v) := by
  unfold pickV
  split
  · rename_i a b
    cases t with
    | true => have := (hR _ _).1 (hx rfl); subst this; exact (hR _ _).2 rfl
    | false => have := (hR _ _).1 (hy rfl); subst this; exact (hR _ _).2 rfl
  · rename_i k a k' b
    split
    · rename_i hk
      subst hk
      cases t with
      | true => have := (hR _ _).1 (hx rfl); subst this; exact (hR _ _).2 rfl
      | false => have := (hR _ _).1 (hy rfl); subst this; exact (hR _ _).2 rfl
    · cases t with
      | true => exact hx rfl
      | false => exact hy rfl
  · cases t with
    | true => exact hx rfl
    | false => exact hy rfl
theorem pPick_ok {c x y : Bool × A} {s u v : Value} (hc : SR (RL μ ok w) c s) (hx : SR (RL μ ok w) x u) (hy : SR (RL μ ok w) y v) (h : (pPick c x y).1) :
    ∃ r, (∀ w' : World, True → (do pure (if ← asBool s then u else v) : Sem Value).run P w' = .ok r w') ∧ RA (RL μ ok w) (pPick c x y).2 r := by
  unfold pPick at h ⊢
  split at h
  · rename_i g t
    obtain ⟨h1, h2, h3⟩ := h
    have e1 : s = .bool t := hc h1
    subst e1
    refine ⟨if t = true then u else v, fun w' _ => by simp [asBool], ?_⟩
    exact pickV_ok (fun _ _ => Iff.rfl) t x.2 y.2 u v (fun ht => hx (h2 ht)) (fun ht => hy (h3 ht))
  · exact h.elim
theorem pNot_ok {x : Bool × A} {u : Value} (hx : SR (RL μ ok w) x u) (h : (pNot x).1) : ∃ r, (∀ w' : World, True → (Op.unary .not u).run P w' = .ok r w') ∧ RA (RL μ ok w) (pNot x).2 r := by
  unfold pNot at h ⊢
  split at h
  · have e1 : u = _ := hx h
    subst e1
    exact ⟨_, fun w' _ => by simp [Op.unary], rfl⟩
  · exact h.elim
theorem pNeg_ok {x : Bool × A} {u : Value} (hx : SR (RL μ ok w) x u) (h : (pNeg x).1) : ∃ r, (∀ w' : World, True → (Op.unary .neg u).run P w' = .ok r w') ∧ RA (RL μ ok w) (pNeg x).2 r := by
  unfold pNeg at h ⊢
  split at h
  · have e1 : u = _ := hx h
    subst e1
    exact ⟨_, fun w' _ => by simp [Op.unary, Op.intArith], rfl⟩
  · exact h.elim
theorem pConv_ok (hT : ∀ t i, T t = some i → TyOK P t i) {s d : TypeId} {x : Bool × A} {u : Value} (hx : SR (RL μ ok w) x u) (h : (pConv T s d x).1) : ∃ r, (∀ w' : World, True → (convert s d u).run P w' = .ok r w') ∧ RA (RL μ ok w) (pConv T s d x).2 r := by
  unfold pConv at h ⊢
  split at h
  · rename_i n h1 h2
    have e1 : u = _ := hx h
    subst e1
    exact ⟨_, fun w' _ => by simp [convert, run_under (prim_under hT h1), run_under (prim_under hT h2), Conv.intToInt], rfl⟩
  · exact h.elim
theorem fields_at {fa : Array Field} {fs : List (Nat × TypeId)} {k o : Nat} {ft : TypeId} (h : fa.toList.map (fun f => (f.offset, f.type)) = fs) (hk : fs[k]? = some (o, ft)) : ∃ f, fa[k]? = some f ∧ f.offset = o ∧ f.type = ft := by
  subst h
  rw [List.getElem?_map] at hk
  cases hf : fa.toList[k]? with
  | none => rw [hf] at hk; simp at hk
  | some f =>
    rw [hf] at hk
    simp only [Option.map_some, Option.some.injEq, Prod.mk.injEq] at hk
    exact ⟨f, by simpa using hf, hk.1, hk.2⟩
theorem fcells_ok {R : L → Value → Prop} {f : Nat → C} {g : Nat → Value} : ∀ (n o : Nat), (∀ j, j < n → R (.c (f (o + j))) (g (o + j))) → RLs R (fcells f o n) ((List.range' o n).map g)
  | 0, o, _ => RLs.nil
  | n + 1, o, h => by
    rw [fcells, List.range'_succ, List.map_cons]
    exact RLs.append (RLs.one (h 0 (by omega))) (fcells_ok n (o + 1) (fun j hj => by have := h (j + 1) (by omega); rwa [show o + (j + 1) = o + 1 + j by omega] at this))
theorem pLoad_ok (hT : ∀ t i, T t = some i → TyOK P t i) {bx : List B} {t : TypeId} {x : Bool × A} {u : Value} (hm : Mem μ ok bx w) (hx : SR (RL μ ok w) x u) (h : (pLoad T bx t x).1) : ∃ r, (∀ w', Ag μ ok bx w w' → (Instr.loadAt t u).run P w' = .ok r w') ∧ RA (RL μ ok w) (pLoad T bx t x).2 r := by
  unfold pLoad at h ⊢
  split at h
  · rename_i g id off
    split at h
    · rename_i ls t' hb
      obtain ⟨h1, h2, h3, h4⟩ := h
      obtain ⟨i, hi, hs⟩ := known_some h2
      obtain ⟨b, hg, hu⟩ := hx h1
      subst hu
      obtain ⟨cs, hc, hr⟩ := hm.box id _ b hb hg
      simp only [hb]
      have hl : ((cs.toList.drop off).take (T.size t)).length = i.size := by
        rw [List.length_take, List.length_drop, ← hr.1]; omega
      refine ⟨mkV i ((cs.toList.drop off).take (T.size t)), fun w' hw' => ?_, mk_ok hi ((hr.drop off).take _) (by rw [hl]; omega)⟩
      simp only [Instr.loadAt, Instr.sureAddr, Sem.run_bind, Sem.run_pure, Result.andThen_ok]
      refine run_loadVar (hT _ _ hi) _ _ hl (by omega) (fun j v hj => ?_)
      rw [List.getElem?_take] at hj
      split at hj
      · rw [List.getElem?_drop] at hj
        rw [add_lit]
        simp only [World.cell?, hw' b (.inr ⟨id, _, hb, by simp, hg⟩), hc]
        simpa using hj
      · cases hj
    · exact h.elim
  · rename_i g id sz k off
    split at h
    · rename_i es sz' t' hb
      obtain ⟨h1, h2, h3, h4, h5, h6⟩ := h
      subst h3
      obtain ⟨i, hi, hs⟩ := known_some h2
      obtain ⟨b, hg, hu⟩ := hx h1
      subst hu
      obtain ⟨cs, cap, hc, hsz, hcap, _, hel⟩ := hm.box id _ b hb hg
      simp only [hb]
      have he : es[k]? = some (es.getD k []) := by rw [List.getD_eq_getElem?_getD, List.getElem?_eq_getElem h4]; rfl
      obtain ⟨hlen, hall⟩ := hel k _ he
      generalize es.getD k [] = e at hlen hall
      have hvs : RLs (RL μ ok w) e ((List.range' 0 sz).map fun j => cs.getD (k * sz + j) undef) := by
        refine ⟨by simp [hlen], fun j l hj => ?_⟩
        obtain ⟨v, hv, hr⟩ := hall j l hj
        have hjl : j < sz := by rw [← hlen]; exact (List.getElem?_eq_some_iff.1 hj).1
        refine ⟨v, ?_, hr⟩
        simp [List.getElem?_map, List.getElem?_range', hjl, hv]
      have hl : ((((List.range' 0 sz).map fun j => cs.getD (k * sz + j) undef).drop off).take (T.size t)).length = i.size := by
        rw [List.length_take, List.length_drop, List.length_map, List.length_range']; omega
      have hmk := mk_ok (R := RL μ ok w) hi ((hvs.drop off).take (T.size t)) (by rw [hl]; omega)
      refine ⟨_, fun w' hw' => ?_, hmk⟩
      simp only [Instr.loadAt, Instr.sureAddr, Sem.run_bind, Sem.run_pure, Result.andThen_ok]
      refine run_loadVar (hT _ _ hi) _ _ hl (by omega) (fun j v hj => ?_)
      rw [List.getElem?_take] at hj
      split at hj
      · rename_i hjl
        rw [List.getElem?_drop, List.getElem?_map, List.getElem?_range' (by omega)] at hj
        simp only [Nat.zero_add, Nat.one_mul, Option.map_some, Option.some.injEq] at hj
        have hq : e[off + j]? = some (e[off + j]'(by omega)) := List.getElem?_eq_getElem (by omega)
        obtain ⟨v', hv', _⟩ := hall _ _ hq
        rw [add_lit]
        simp only [World.cell?, hw' b (.inr ⟨id, _, hb, by simp, hg⟩), hc]
        rw [Array.getD_eq_getD_getElem?, hv'] at hj
        rw [show k * sz + off + j = k * sz + (off + j) by omega, hv']
        simpa using hj
      · cases hj
    · exact h.elim
  · rename_i g n f
    obtain ⟨h1, h2, h3, h4⟩ := h
    obtain ⟨i, hi, hs⟩ := known_some h2
    obtain ⟨b, hu, hb, hall⟩ := hx h1
    subst hu
    have hex : ∀ j, j < T.size t → RL μ ok w (.c (f (0 + j))) ((w.cell? (b.add (0 + j))).getD undef) := by
      intro j hj
      obtain ⟨v, hv, hr⟩ := hall j (by omega)
      rw [Nat.zero_add, hv]
      exact hr
    have hr := fcells_ok (R := RL μ ok w) (f := f) (g := fun j => (w.cell? (b.add j)).getD undef) (T.size t) 0 hex
    have hl : ((List.range' 0 (T.size t)).map fun j => (w.cell? (b.add j)).getD undef).length = i.size := by simp [hs]
    refine ⟨_, fun w' hw' => ?_, mk_ok hi hr (by rw [hl]; omega)⟩
    simp only [Instr.loadAt, Instr.sureAddr, Sem.run_bind, Sem.run_pure, Result.andThen_ok]
    refine run_loadVar (hT _ _ hi) _ _ hl (by omega) (fun j v hj => ?_)
    rw [List.getElem?_map] at hj
    by_cases hjl : j < T.size t
    · rw [List.getElem?_range' hjl] at hj
      obtain ⟨v', hv', _⟩ := hall j (by omega)
      simp [hv'] at hj
      rw [cell_ag b (hw' _ (.inl hb)), hv', hj]
    · rw [List.getElem?_eq_none (by simp; omega)] at hj
      simp at hj
  · exact h.elim
end
end Go.Proofs.YtdedmhmomoejkaaDoor.V
