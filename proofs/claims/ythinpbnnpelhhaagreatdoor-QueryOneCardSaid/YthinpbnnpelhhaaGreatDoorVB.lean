import Derived.Test.YthinpbnnpelhhaaGreatDoorVA
import Derived.Deep.AppendSrc
import Derived.Laws.BytesString
import Derived.Laws.RangeString
namespace Go.Proofs.YthinpbnnpelhhaaGreatDoor.V
open Go Go.RowKit Go.Proofs.YthinpbnnpelhhaaGreatDoorW.PrintLast
open Go.Proofs
set_option linter.unusedVariables false
set_option linter.unusedSimpArgs false
--IMP VA
--ALSO Derived.Deep.AppendSrc
section
variable {P : Program} {T : Ty} {ok0 : Nat → Prop} {μ0 : List Nat} {w0 : World}
/-- The cells of a row, one behind the other. -/
def cellsAt (w : World) (a : Addr) (n : Nat) : List Value := (List.range n).map fun q => (w.cell? (a.add q)).getD undef
theorem cellsAt_len (w : World) (a : Addr) (n : Nat) : (cellsAt w a n).length = n := by simp [cellsAt]
theorem rowList_at {m sz : Nat} {f : Nat → Nat → C} {i : Nat} {e : List L} (h : (rowList m sz f)[i]? = some e) : i < m ∧ e.length = sz ∧ ∀ (j : Nat) x, e[j]? = some x → j < sz ∧ x = .c (f i j) := by
  unfold rowList at h
  rw [List.getElem?_map] at h
  by_cases hi : i < m
  · rw [List.getElem?_range hi] at h
    simp only [Option.map_some, Option.some.injEq] at h
    subst h
    refine ⟨hi, by simp, fun j x hj => ?_⟩
    rw [List.getElem?_map] at hj
    by_cases hjl : j < sz
    · rw [List.getElem?_range hjl] at hj
      exact ⟨hjl, by simpa using hj.symm⟩
    · rw [List.getElem?_eq_none (by simp; omega)] at hj
      simp at hj
  · rw [List.getElem?_eq_none (by simp; omega)] at h
    simp at h
theorem rowList_len (m sz : Nat) (f : Nat → Nat → C) : (rowList m sz f).length = m := by simp [rowList]
/-- Cells that lie at an address, and how they are told. -/
theorem cells_told {μ : List Nat} {ok : Nat → Prop} {w : World} {a : Addr} {m sz : Nat} {ns : List (List L)} (hl : ns.length = m) (hs : 0 < sz)
    (h : ∀ (i : Nat) e, ns[i]? = some e → e.length = sz ∧ ∀ (j : Nat) x, e[j]? = some x → ∃ v, w.cell? (a.add (i * sz + j)) = some v ∧ RL μ ok w x v) (hc : allCell ns) :
    (∀ j u, (cellsAt w a (m * sz))[j]? = some u → w.cell? (a.add j) = some u) ∧ (∀ u, u ∈ cellsAt w a (m * sz) → u.oneCell' = true) ∧ (∀ (i : Nat) e, ns[i]? = some e → e.length = sz ∧ ∀ (j : Nat) x, e[j]? = some x → ∃ v, (cellsAt w a (m * sz))[i * sz + j]? = some v ∧ RL μ ok w x v) := by
  have get : ∀ q, q < m * sz → ∃ v x, (cellsAt w a (m * sz))[q]? = some v ∧ w.cell? (a.add q) = some v ∧ RL μ ok w x v ∧ lcell x = true := by
    intro q hq
    have h1 : q / sz < ns.length := by rw [hl]; exact (Nat.div_lt_iff_lt_mul hs).2 hq
    have he : ns[q / sz]? = some (ns[q / sz]'h1) := List.getElem?_eq_getElem h1
    obtain ⟨h2, h3⟩ := h _ _ he
    have h4 : q % sz < (ns[q / sz]'h1).length := by rw [h2]; exact Nat.mod_lt _ hs
    obtain ⟨v, hv, hr⟩ := h3 (q % sz) _ (List.getElem?_eq_getElem h4)
    rw [Nat.mul_comm, Nat.div_add_mod] at hv
    exact ⟨v, _, by simp [cellsAt, List.getElem?_map, List.getElem?_range hq, hv], hv, hr, List.all_eq_true.1 (hc _ (List.getElem_mem h1)) _ (List.getElem_mem h4)⟩
  refine ⟨fun j u hj => ?_, fun u hu => ?_, fun i e he => ⟨(h i e he).1, fun j x hj => ?_⟩⟩
  · have hjl : j < m * sz := by have := (List.getElem?_eq_some_iff.1 hj).1; rwa [cellsAt_len] at this
    obtain ⟨v, x, h1, h2, _⟩ := get j hjl
    rw [hj] at h1
    rw [h2, ← h1]
  · obtain ⟨j, hj⟩ := List.getElem?_of_mem hu
    have hjl : j < m * sz := by have := (List.getElem?_eq_some_iff.1 hj).1; rwa [cellsAt_len] at this
    obtain ⟨v, x, h1, _, h3, h4⟩ := get j hjl
    rw [hj] at h1
    obtain rfl : u = v := by simpa using h1
    exact lcell_one h3 h4
  · obtain ⟨h1, h2⟩ := h i e he
    obtain ⟨v, hv, hr⟩ := h2 j x hj
    refine ⟨v, ?_, hr⟩
    have hi : i < m := by rw [← hl]; exact at_in he
    have hjl : j < sz := by rw [← h1]; exact at_in hj
    have hq : i * sz + j < m * sz := by
      have : (i + 1) * sz ≤ m * sz := Nat.mul_le_mul_right _ hi
      rw [Nat.add_mul] at this
      omega
    simp [cellsAt, List.getElem?_map, List.getElem?_range hq, hv]
/-- What is appended. -/
theorem src_ok (hT : ∀ t i, T t = some i → TyOK P t i) {μ : List Nat} {ok : Nat → Prop} {bx : List B} {w : World} {l : L} {u : Value} {sz : Nat} {ns : List (List L)} {tx : TypeId} (hm : Mem μ ok bx w) (h : RL μ ok w l u) (hr : rowOf bx l = some (sz, ns)) (hs : 0 < sz) (hk : srcOK T tx l = true) (hc : allCell ns) :
    ∃ news, Src P sz tx u ns.length news w ∧ ∀ (i : Nat) e, ns[i]? = some e → e.length = sz ∧ ∀ (j : Nat) x, e[j]? = some x → ∃ v, news[i * sz + j]? = some v ∧ RL μ ok w x v := by
  have ofRow : ∀ (a : Addr) (c m : Nat), u = .slice (some a) m c → ns.length = m → (∃ e', P.underlying tx = some (.slice e')) → (∀ (i : Nat) e, ns[i]? = some e → e.length = sz ∧ ∀ (j : Nat) x, e[j]? = some x → ∃ v, w.cell? (a.add (i * sz + j)) = some v ∧ RL μ ok w x v) →
      ∃ news, Src P sz tx u ns.length news w ∧ ∀ (i : Nat) e, ns[i]? = some e → e.length = sz ∧ ∀ (j : Nat) x, e[j]? = some x → ∃ v, news[i * sz + j]? = some v ∧ RL μ ok w x v := by
    intro a c m hu hl ⟨e', he'⟩ hcs
    obtain ⟨h1, h2, h3⟩ := cells_told hl hs hcs hc
    exact ⟨cellsAt w a (m * sz), by rw [hu, hl]; exact Src.ofSlice w he' a m c _ (cellsAt_len _ _ _) h1 h2, h3⟩
  have hsl : (∀ s, l ≠ .c (.v s)) → ∃ e', P.underlying tx = some (.slice e') := by
    intro hne
    unfold srcOK at hk
    split at hk
    · cases hk
    · rename_i e' _ _ _ hTs _; exact ⟨e', slice_under hT hTs⟩
    · rename_i s _; exact absurd rfl (hne _)
    · cases hk
  cases l with
  | c x =>
    cases x with
    | v x =>
      cases x with
      | string s =>
        simp only [rowOf, Option.some.injEq, Prod.mk.injEq] at hr
        obtain ⟨rfl, rfl⟩ := hr
        have hu : u = .string s := h
        have hkt : P.underlying tx = some .string := by
          unfold srcOK at hk
          split at hk
          · cases hk
          · rename_i hn; exact absurd rfl (hn _)
          · rename_i hTs _; exact prim_under hT hTs
          · cases hk
        have hl : (bytesL s).length = s.size := by unfold bytesL; rw [List.length_map, Array.length_toList]; rfl
        refine ⟨byteCells s, by rw [hu, hl]; exact Src.ofString w hkt s, fun i e he => ?_⟩
        unfold bytesL at he
        rw [List.getElem?_map] at he
        cases hq : s.data.toList[i]? with
        | none => rw [hq] at he; simp at he
        | some b =>
          rw [hq] at he
          obtain rfl : [L.c (.v (.int .u8 (b.toNat : Int)))] = e := by simpa using he
          refine ⟨rfl, fun j x hj => ?_⟩
          cases j with
          | zero =>
            obtain rfl : L.c (.v (.int .u8 (b.toNat : Int))) = x := by simpa using hj
            exact ⟨.int .u8 b.toNat, by unfold byteCells; rw [Nat.mul_one, Nat.add_zero, List.getElem?_map, hq]; rfl, rfl⟩
          | succ j => simp at hj
      | _ => simp [rowOf] at hr
    | sl n sz' f =>
      simp only [rowOf, Option.some.injEq, Prod.mk.injEq] at hr
      obtain ⟨rfl, rfl⟩ := hr
      obtain ⟨a, cap, hu, _, hcl⟩ := h
      obtain ⟨e', he'⟩ := hsl (fun s e => by cases e)
      cases a with
      | none =>
        have hn0 : n = 0 := by
          rcases Nat.eq_zero_or_pos n with h0 | h0
          · exact h0
          · obtain ⟨b, v, hb, _⟩ := hcl 0 h0 0 hs
            cases hb
        subst hn0
        refine ⟨[], by rw [hu, rowList_len]; exact Src.ofNil w he' cap, fun i e he => ?_⟩
        have := (rowList_at he).1
        omega
      | some a =>
        refine ofRow a cap n hu (rowList_len _ _ _) ⟨e', he'⟩ (fun i e he => ?_)
        obtain ⟨h1, h2, h3⟩ := rowList_at he
        refine ⟨h2, fun j x hj => ?_⟩
        obtain ⟨h4, rfl⟩ := h3 j x hj
        obtain ⟨b, v, hb, _, hv, hr⟩ := hcl i h1 j h4
        obtain rfl : a = b := by injection hb
        exact ⟨v, hv, hr⟩
    | any => simp [rowOf] at hr
    | ifc => simp [rowOf] at hr
  | own id sz' o n =>
    simp only [rowOf] at hr
    split at hr
    · rename_i es sz'' t' hb
      split at hr
      · rename_i hcond
        obtain ⟨h5, h6⟩ := hcond
        subst h5
        simp only [Option.some.injEq, Prod.mk.injEq] at hr
        obtain ⟨rfl, rfl⟩ := hr
        obtain ⟨g, cap, cs, t, hg, hu, _, hh, _⟩ := h
        obtain ⟨cs2, cap2, hh2, _, _, _, hel⟩ := hm.box id _ g hb hg
        refine ofRow _ cap n hu (by rw [List.length_take, List.length_drop]; omega) (hsl (fun s e => by cases e)) (fun i e he => ?_)
        rw [List.getElem?_take] at he
        split at he
        · rw [List.getElem?_drop] at he
          obtain ⟨h7, h8⟩ := hel _ e he
          refine ⟨h7, fun j x hj => ?_⟩
          obtain ⟨v, hv, hr⟩ := h8 j x hj
          refine ⟨v, ?_, hr⟩
          rw [add_lit, ← Nat.add_assoc, ← Nat.add_mul]
          simp only [World.cell?, hh2]
          simpa using hv
        · cases he
      · cases hr
    · cases hr
  | _ => simp [rowOf] at hr
theorem run_append_room' {w : World} (t tx ty e : TypeId) (i : TypeInfo) (ht : P.underlying t = some (.slice e)) (hi : P.info? e = some i) (g sLen sCap : Nat) (cur : Array Value) (hg : w.heap[g]? = some (.cells cur e (0, 0))) (x : Value) (n : Nat) (news : List Value) (hs : Src P i.size tx x n news w)
    (hroom : sLen + n ≤ sCap) (hfit : sLen * i.size + news.length ≤ cur.size) :
    (Builtin.append_ #[t, tx] ty #[.slice (some ⟨g, 0, none⟩) sLen sCap, x]).run P w =
      .ok (.slice (some ⟨g, 0, none⟩) (sLen + n) sCap) (w.setRow g (cur.toList.take (sLen * i.size) ++ news ++ cur.toList.drop (sLen * i.size + news.length)).toArray) := by
  have hst := run_storeCells_at P g (sLen * i.size) e news 0 cur w hg (by simpa using hfit) hs.one
  simp only [Nat.add_zero] at hst
  rcases hs.kind with ⟨e', hk⟩ | hk <;> simp [Builtin.append_, run_underlying ht, run_underlying hk, sizeOf, typeInfo, hi, hs.len, hroom, hs.cells, Addr.add_lit, hst]
theorem drew_alloc_heap (w : World) (o : Obj) : (w.drew.alloc o).heap[w.heap.size]? = some o := heap_alloc_new w.drew o
theorem below_drew_alloc (w : World) (o : Obj) : Below w.heap.size w (w.drew.alloc o) := ((Below.refl _ w).drew).alloc (Nat.le_refl _) o
/-- Behind the elements that were there, and the new ones, whatever. -/
theorem arr_cells {R : L → Value → Prop} {es ns : List (List L)} {n m sz : Nat} {olds news rest : List Value} (hn : n ≤ es.length) (hm : ns.length = m) (ho : olds.length = n * sz) (hl : news.length = m * sz)
    (hes : ∀ (i : Nat) e, i < n → es[i]? = some e → e.length = sz ∧ ∀ (j : Nat) x, e[j]? = some x → ∃ v, olds[i * sz + j]? = some v ∧ R x v)
    (hnew : ∀ (i : Nat) e, ns[i]? = some e → e.length = sz ∧ ∀ (j : Nat) x, e[j]? = some x → ∃ v, news[i * sz + j]? = some v ∧ R x v) :
    ∀ (i : Nat) e, (es.take n ++ ns)[i]? = some e → e.length = sz ∧ ∀ (j : Nat) x, e[j]? = some x → ∃ v, ((olds ++ news ++ rest).toArray)[i * sz + j]? = some v ∧ R x v := by
  intro i e hi
  have htl : (es.take n).length = n := by rw [List.length_take]; omega
  rw [List.getElem?_append, htl] at hi
  split at hi
  · rename_i hlt
    rw [List.getElem?_take, if_pos hlt] at hi
    obtain ⟨h1, h2⟩ := hes i e hlt hi
    refine ⟨h1, fun j x hj => ?_⟩
    obtain ⟨v, h3, h4⟩ := h2 j x hj
    refine ⟨v, ?_, h4⟩
    have hol := (List.getElem?_eq_some_iff.1 h3).1
    rw [List.getElem?_toArray, List.append_assoc, List.getElem?_append_left hol]
    exact h3
  · rename_i hge
    obtain ⟨h2, h3⟩ := hnew _ e hi
    refine ⟨h2, fun j x hj => ?_⟩
    obtain ⟨v, h5, h6⟩ := h3 j x hj
    refine ⟨v, ?_, h6⟩
    have hnl := (List.getElem?_eq_some_iff.1 h5).1
    have e1 : i * sz = n * sz + (i - n) * sz := by rw [← Nat.add_mul]; congr 1; omega
    rw [List.getElem?_toArray, List.append_assoc, List.getElem?_append_right (by omega), List.getElem?_append_left (by omega), ho]
    rw [show i * sz + j - n * sz = (i - n) * sz + j by omega]
    exact h5
end
section
variable {P : Program} {T : Ty} {ok0 : Nat → Prop} {μ0 ν : List Nat} {w0 : World}
/-- A row that goes on under a new number: in its block, or in a new one. -/
theorem RelX.move {σ : St} {a : Act} {w w' : World} (h : RelX ok0 μ0 w0 ν σ a w) {id : Nat} {b0 b : B} {g : Nat} (h0 : σ.bx[id]? = some b0) (hn : b0 ≠ .hid) (hF : Fw [g] w w') (hw : ∀ k, k < w.heap.size → k ≠ g → w'.heap[k]? = w.heap[k]?) (hgs : g < w'.heap.size)
    (hg : g = w.heap.size ∨ ∀ μ ok, Rl μ ok σ a w → μ[id]? = some g) (r : A) (v : Value)
    (hb : ∀ μ ok, Rl μ ok σ a w → (∀ l u, RL μ ok w l u → RL (μ ++ [g]) ok w' l u) → BoxR (μ ++ [g]) ok w' g b ∧ ((μ ++ [g])[σ.bx.length]? = some g → RA (RL (μ ++ [g]) ok w') r v)) :
    RelA ok0 μ0 w0 ν { σ with bx := σ.bx.set id .hid ++ [b] } a w' r v := by
  obtain ⟨ok, h1, hR, hO⟩ := h
  have hgok : ¬ ok g := by
    rcases hg with rfl | hg
    · exact fun hk => Nat.lt_irrefl _ (hR.mem.small _ hk)
    · exact hR.mem.live id b0 g h0 (hg _ _ hR) hn
  have hokw : ∀ k, ok k → w'.heap[k]? = w.heap[k]? := fun k hk => hw k (hR.mem.small k hk) (fun e => hgok (e ▸ hk))
  have hRL1 : ∀ l u, RL (μ0 ++ ν) ok w l u → RL (μ0 ++ ν) ok w' l u := RL.congr (fun i g hg => hg) (fun _ h => h) hokw (fun g' hg' cs t hc => hF.kept g' (hR.mem.there g' hg') cs t hc)
  have hRL : ∀ l u, RL (μ0 ++ ν) ok w l u → RL ((μ0 ++ ν) ++ [g]) ok w' l u := fun l u hl => RL_weak _ (hRL1 l u hl)
  have hid : ∀ (j : Nat) b', (σ.bx.set id .hid)[j]? = some b' → b' ≠ .hid → j ≠ id ∧ σ.bx[j]? = some b' := by
    intro j b' h2 h3
    rw [List.getElem?_set] at h2
    split at h2
    · split at h2
      · obtain rfl : B.hid = b' := by simpa using h2
        exact absurd rfl h3
      · cases h2
    · rename_i e
      exact ⟨fun e' => e e'.symm, h2⟩
  have hnot : ∀ (j : Nat) b', (σ.bx.set id .hid)[j]? = some b' → b' ≠ .hid → (μ0 ++ ν)[j]? ≠ some g := by
    intro j b' h2 h3 h4
    obtain ⟨h5, h6⟩ := hid j b' h2 h3
    rcases hg with rfl | hg
    · exact Nat.lt_irrefl _ (hR.mem.there _ (List.mem_of_getElem? h4))
    · exact h5 (hR.mem.nd j id b' b0 g h6 h0 h3 hn h4 (hg _ _ hR))
  have hm1 := Mem_hide hR.mem id
  have hm2 : Mem (μ0 ++ ν) ok (σ.bx.set id .hid) w' := ⟨hm1.len, hm1.nd, hm1.live, fun x hx => Nat.lt_of_lt_of_le (hm1.there x hx) hF.size, fun k hk => Nat.lt_of_lt_of_le (hm1.small k hk) hF.size, fun j b' g' h2 h3 => by
    by_cases hh : b' = .hid
    · subst hh; trivial
    · exact BoxR_congr hRL1 (hw g' (hR.mem.there g' (List.mem_of_getElem? h3)) (fun e => hnot j b' h2 hh (e ▸ h3))) b' (hm1.box j b' g' h2 h3), hm1.gl.keep (fun _ h => h) (fun k hk => hw k (hm1.small k hk) (fun e => hgok (e ▸ hk)))⟩
  have hm3 := Mem_add hm2 hnot hgok hgs (hb _ _ hR hRL).1
  have hat : ((μ0 ++ ν) ++ [g])[σ.bx.length]? = some g := by
    rw [List.getElem?_append_right (by rw [hR.mem.len]; exact Nat.le_refl _), hR.mem.len]
    simp
  have hO2 : Out ok0 μ0 w0 (ν ++ [g]) ok w' := by
    have h3 : w0.heap.size ≤ g ∨ g ∈ μ0 := by
      rcases hg with rfl | hg
      · exact .inl hO.fw.size
      · rcases List.mem_append.1 (List.mem_of_getElem? (hg _ _ hR)) with h | h
        · exact .inr h
        · exact hO.new g h
    refine Out.add ⟨hO.fw.step hF (fun x hx => ?_), hO.ok1, hO.ok2, hO.new⟩ h3
    rw [List.mem_singleton] at hx
    subst hx
    exact h3.symm
  refine ⟨[g], ok, h1, ?_, hO2, ?_⟩
  · rw [← List.append_assoc]
    exact ⟨hm3, hR.nt, fun t => RA_mono hRL _ _ (hR.tm t), hR.df⟩
  · rw [← List.append_assoc]
    exact (hb _ _ hR hRL).2 hat
theorem append_ok (hT : ∀ t i, T t = some i → TyOK P t i) {σ : St} {a : Act} {w : World} {t tx ty : TypeId} {s x : Operand} {k : A → St → Prop} (h : RelX ok0 μ0 w0 ν σ a w) (he : eAppend T σ t tx (strip (σ.ev s)) (strip (σ.ev x)) k) :
    ∃ r σ' v w', (Builtin.append_ #[t, tx] ty #[a.eval s, a.eval x]).run P w = .ok v w' ∧ RelA ok0 μ0 w0 ν σ' a w' r v ∧ k r σ' := by
  obtain ⟨ok, _, hR, _⟩ := _root_.id h
  have hs0 := SR.of (ev_ok hR s)
  have hx0 := SR.of (ev_ok hR x)
  unfold eAppend at he
  split at he
  · rename_i e _ _ _ hTs
    have hu := slice_under hT hTs
    split at he
    · rename_i g sl g' xl heq1 heq2
      rw [heq1] at hs0
      rw [heq2] at hx0
      split at he
      · rename_i sz ns hrow
        have src : ∀ μ ok2, Rl μ ok2 σ a w → g' = true → 0 < sz → srcOK T tx xl = true → allCell ns → ∃ news, Src P sz tx (a.eval x) ns.length news w ∧ ∀ (i : Nat) e, ns[i]? = some e → e.length = sz ∧ ∀ (j : Nat) x, e[j]? = some x → ∃ v, news[i * sz + j]? = some v ∧ RL μ ok2 w x v := by
          intro μ ok2 hR2 h1 h2 h3 h4
          have hx2 := SR.of (ev_ok hR2 x)
          rw [heq2] at hx2
          exact src_ok hT hR2.mem (hx2 h1) hrow h2 h3 h4
        have uniq : ∀ {n1 n2 : List Value}, Src P sz tx (a.eval x) ns.length n1 w → Src P sz tx (a.eval x) ns.length n2 w → n1 = n2 := by
          intro n1 n2 s1 s2
          have h1 := s1.cells
          rw [s2.cells] at h1
          simp only [Result.ok.injEq, and_true] at h1
          exact (List.toArray_inj h1).symm
        split at he
        · obtain ⟨hcell, hsrc, h1, h2, h3, h4, h5, h6, h7, h8, h9⟩ := he
          obtain ⟨i, hi, hsz⟩ := known_some h3
          have hby : T.bytes e = i.bytes := by unfold Ty.bytes; rw [hi]
          rw [hby] at h7
          obtain ⟨j, z, e1, e2, e3, e4, e5⟩ := (hT _ _ hi).info
          have hsv : a.eval s = .slice none 0 0 := hs0 h1
          obtain ⟨news, hS, _⟩ := src _ _ hR h2 h5 hsrc hcell
          have hjs : j.size = sz := by rw [e2, ← hsz, h4]
          have hmx : ((0 + ns.length : Nat) : Int) ≤ 9223372036854775807 := by simp only [maxLen] at h8; omega
          have hr := run_append_grow_src (P := P) w t tx ty e j z hu e1 e4 none 0 0 [] (run_firstCells_none w.drew j.size 0 0 0) (a.eval x) ns.length news (by rw [hjs]; exact hS) (by omega) hmx (by rw [e3, nextslicecap_zero (by omega), Nat.zero_add]; omega)
          simp only [Nat.zero_add] at hr
          have hge := grownCap_ge w ns.length 0 e
          have hle := grownCap_le_maxLen w ns.length 0 e (by omega)
          have hzz : z.cells.size = sz := by
            have h11 := (hT _ _ hi).zl
            rw [← e5, Array.length_toList] at h11
            omega
          have hca : (([] : List Value) ++ news).toArray ++ Builtin.zeroCells z.cells (grownCap w ns.length 0 e - ns.length) = ([] ++ news ++ (Builtin.zeroCells z.cells (grownCap w ns.length 0 e - ns.length)).toList).toArray := by
            apply Array.ext'; simp
          rw [hca] at hr
          generalize hnc : ([] ++ news ++ (Builtin.zeroCells z.cells (grownCap w ns.length 0 e - ns.length)).toList).toArray = ncs at hr
          have hnl := hS.newsLen
          have hcsz : ncs.size = grownCap w ns.length 0 e * sz := by
            rw [← hnc]
            simp only [List.nil_append, List.size_toArray, List.length_append, hnl, Array.length_toList, size_zeroCells, hzz, ← Nat.add_mul]
            congr 1
            omega
          have hB' := below_drew_alloc w (.cells ncs e)
          refine ⟨_, _, _, _, by rw [hsv]; exact hr, h.new hB' (by simp [World.size_alloc]) (.arr ns sz e) (.one (.own σ.bx.length sz 0 ns.length)) _ (fun μ ok2 hR2 hRL => ?_), h9⟩
          obtain ⟨news2, hS2, hn2⟩ := src _ _ hR2 h2 h5 hsrc hcell
          obtain rfl := uniq hS hS2
          refine ⟨⟨ncs, _, drew_alloc_heap w _, hcsz, by omega, hle, ?_⟩, fun hid => ⟨w.heap.size, _, ncs, e, hid, by rw [Nat.zero_mul], by omega, drew_alloc_heap w _, by rw [hcsz, Nat.zero_add]⟩⟩
          have := arr_cells (R := RL (μ ++ [w.heap.size]) ok2 (w.drew.alloc (.cells ncs e))) (es := []) (ns := ns) (n := 0) (m := ns.length) (sz := sz) (olds := []) (news := news) (rest := (Builtin.zeroCells z.cells (grownCap w ns.length 0 e - ns.length)).toList) (Nat.zero_le _) rfl (by simp) hnl (fun i e hi => by omega)
            (fun i e he => ⟨(hn2 i e he).1, fun j x hj => let ⟨v, h1, h2⟩ := (hn2 i e he).2 j x hj; ⟨v, h1, hRL _ _ h2⟩⟩)
          rw [hnc] at this
          simpa using this
        · rename_i id sz' n
          split at he
          · rename_i es sz'' t' hb
            obtain ⟨hcell, hsrc, h1, h2, h3, h4, h5, hq1, hq2, hq3, hq4, h7, h8, h9⟩ := he
            subst hq1 hq2 hq3
            obtain ⟨i, hi, hsz⟩ := known_some h3
            have hby : T.bytes t' = i.bytes := by unfold Ty.bytes; rw [hi]
            rw [hby] at h7
            obtain ⟨j, z, e1, e2, e3, e4, e5⟩ := (hT _ _ hi).info
            obtain ⟨gb, cap, cs, tt, hg, hsv, hncap, hh, hcs⟩ := hs0 h1
            obtain ⟨cs2, cap2, hh2, hcs2, hec, hcm, _⟩ := hR.mem.box id _ gb hb hg
            rw [hh] at hh2
            simp only [Option.some.injEq, Obj.cells.injEq] at hh2
            obtain ⟨rfl, rfl, _⟩ := hh2
            rw [Nat.zero_mul] at hsv
            rw [Nat.zero_add] at hcs
            have hcc : cap2 = cap := Nat.eq_of_mul_eq_mul_right h5 (hcs2.symm.trans hcs)
            subst hcc
            obtain ⟨news, hS, _⟩ := src _ _ hR h2 h5 hsrc hcell
            have hnl := hS.newsLen
            have hjs : j.size = sz'' := by rw [e2, ← hsz, h4]
            have hmx : ((n + ns.length : Nat) : Int) ≤ 9223372036854775807 := by simp only [maxLen] at h8; omega
            have hzz : z.cells.size = sz'' := by
              have h11 := (hT _ _ hi).zl
              rw [← e5, Array.length_toList] at h11
              omega
            have hnc2 : n * sz'' ≤ cap2 * sz'' := Nat.mul_le_mul_right _ hncap
            have hol : (cs.toList.take (n * sz'')).length = n * sz'' := by
              rw [List.length_take, Array.length_toList]
              omega
            have box : ∀ μ ok2, Rl μ ok2 σ a w → μ[id]? = some gb ∧ ∀ (i : Nat) e, i < n → es[i]? = some e → e.length = sz'' ∧ ∀ (j : Nat) x, e[j]? = some x → ∃ v, (cs.toList.take (n * sz''))[i * sz'' + j]? = some v ∧ RL μ ok2 w x v := by
              intro μ ok2 hR2
              have hs2 := SR.of (ev_ok hR2 s)
              rw [heq1] at hs2
              obtain ⟨gb2, cap3, cs3, tt3, hg3, hsv3, _⟩ := hs2 h1
              rw [hsv] at hsv3
              simp only [Value.slice.injEq, Option.some.injEq, Addr.mk.injEq] at hsv3
              obtain rfl := hsv3.1.1
              obtain ⟨cs4, cap4, hh4, _, _, _, hel⟩ := hR2.mem.box id _ gb hb hg3
              rw [hh] at hh4
              simp only [Option.some.injEq, Obj.cells.injEq] at hh4
              obtain ⟨rfl, _⟩ := hh4
              refine ⟨hg3, fun q el hqn hq => ?_⟩
              obtain ⟨h11, h12⟩ := hel q el hq
              refine ⟨h11, fun jj x hj => ?_⟩
              obtain ⟨v, h13, h14⟩ := h12 jj x hj
              refine ⟨v, ?_, h14⟩
              have hjl : jj < sz'' := by rw [← h11]; exact at_in hj
              have : (q + 1) * sz'' ≤ n * sz'' := Nat.mul_le_mul_right _ hqn
              rw [Nat.add_mul] at this
              rw [List.getElem?_take, if_pos (by omega)]
              simpa using h13
            by_cases hroom : n + ns.length ≤ cap2
            · have hfit : n * j.size + news.length ≤ cs.size := by
                rw [hnl, hjs, hcs, ← Nat.add_mul]
                exact Nat.mul_le_mul_right _ hroom
              have hr := run_append_room' (P := P) (w := w) t tx ty tt j hu e1 gb n cap2 cs hh (a.eval x) ns.length news (by rw [hjs]; exact hS) hroom hfit
              rw [hjs] at hr hfit
              have hszn : (cs.toList.take (n * sz'') ++ news ++ cs.toList.drop (n * sz'' + news.length)).toArray.size = cs.size := by
                simp only [List.size_toArray, List.length_append, hol, List.length_drop, Array.length_toList]
                omega
              generalize hncs : (cs.toList.take (n * sz'') ++ news ++ cs.toList.drop (n * sz'' + news.length)).toArray = ncs at hr hszn
              have hheap := setRow_heap w gb cs ncs tt (0, 0) hh
              refine ⟨.one (.own σ.bx.length sz'' 0 (n + ns.length)), _, _, _, by rw [hsv]; exact hr, h.move (w' := w.setRow gb ncs) hb (by simp) (Fw.setRow (List.mem_singleton.2 rfl) hh hszn) (fun k _ hk => setRow_other w gb k _ hk) (by rw [setRow_size]; exact at_in' hh) (.inr fun μ ok2 hR2 => (box μ ok2 hR2).1) _ _ (fun μ ok2 hR2 hRL => ?_), h9⟩
              obtain ⟨news2, hS2, hn2⟩ := src _ _ hR2 h2 h5 hsrc hcell
              obtain rfl := uniq hS hS2
              refine ⟨⟨ncs, cap2, hheap, by rw [hszn]; exact hcs, by rw [List.length_append, List.length_take]; omega, hcm, ?_⟩, fun hid => ⟨gb, cap2, ncs, tt, hid, by rw [Nat.zero_mul], hroom, hheap, by rw [hszn, Nat.zero_add]; exact hcs⟩⟩
              rw [← hncs] at hRL ⊢
              exact arr_cells hq4 rfl hol hnl (fun i e hin he => ⟨((box μ ok2 hR2).2 i e hin he).1, fun j x hx => let ⟨v, h1, h2⟩ := ((box μ ok2 hR2).2 i e hin he).2 j x hx; ⟨v, h1, hRL _ _ h2⟩⟩) (fun i e he => ⟨(hn2 i e he).1, fun j x hj => let ⟨v, h1, h2⟩ := (hn2 i e he).2 j x hj; ⟨v, h1, hRL _ _ h2⟩⟩)
            · have hge := grownCap_ge w (n + ns.length) cap2 tt
              have hle := grownCap_le_maxLen w (n + ns.length) cap2 tt h8
              have hold1 : ∀ (q : Nat) v, (cs.toList.take (n * sz''))[q]? = some v → w.cell? ((⟨gb, 0, none⟩ : Addr).add q) = some v := by
                intro q v hq
                rw [List.getElem?_take] at hq
                split at hq
                · rw [add_lit, Nat.zero_add]
                  simp only [World.cell?, hh]
                  simpa using hq
                · cases hq
              have hr := run_append_grow_src (P := P) w t tx ty tt j z hu e1 e4 (some ⟨gb, 0, none⟩) n cap2 (cs.toList.take (n * sz'')) (run_firstCells_some w.drew j.size n ⟨gb, 0, none⟩ n cap2 _ (by rw [hol, hjs]) (by simpa using hold1)) (a.eval x) ns.length news (by rw [hjs]; exact hS) (by omega) hmx (growslice_fits (by omega) (by rw [e3]; exact h7))
              have hca : (cs.toList.take (n * sz'') ++ news).toArray ++ Builtin.zeroCells z.cells (grownCap w (n + ns.length) cap2 tt - (n + ns.length)) = (cs.toList.take (n * sz'') ++ news ++ (Builtin.zeroCells z.cells (grownCap w (n + ns.length) cap2 tt - (n + ns.length))).toList).toArray := by
                apply Array.ext'; simp
              rw [hca] at hr
              generalize hnc : (cs.toList.take (n * sz'') ++ news ++ (Builtin.zeroCells z.cells (grownCap w (n + ns.length) cap2 tt - (n + ns.length))).toList).toArray = ncs at hr
              have hcsz : ncs.size = grownCap w (n + ns.length) cap2 tt * sz'' := by
                rw [← hnc]
                simp only [List.size_toArray, List.length_append, hol, hnl, Array.length_toList, size_zeroCells, hzz, ← Nat.add_mul]
                congr 1
                omega
              have hB' := below_drew_alloc w (.cells ncs tt)
              refine ⟨.one (.own σ.bx.length sz'' 0 (n + ns.length)), _, _, _, by rw [hsv]; exact hr, h.move (w' := w.drew.alloc (.cells ncs tt)) (g := w.heap.size) hb (by simp) (Fw.of _ hB') (fun k hk _ => hB'.block k hk) (by simp [World.size_alloc]) (.inl rfl) _ _ (fun μ ok2 hR2 hRL => ?_), h9⟩
              obtain ⟨news2, hS2, hn2⟩ := src _ _ hR2 h2 h5 hsrc hcell
              obtain rfl := uniq hS hS2
              refine ⟨⟨ncs, _, drew_alloc_heap w _, hcsz, by rw [List.length_append, List.length_take]; omega, hle, ?_⟩, fun hid => ⟨w.heap.size, _, ncs, tt, hid, by rw [Nat.zero_mul], hge, drew_alloc_heap w _, by rw [hcsz, Nat.zero_add]⟩⟩
              rw [← hnc] at hRL ⊢
              exact arr_cells hq4 rfl hol hnl (fun i e hin he => ⟨((box μ ok2 hR2).2 i e hin he).1, fun j x hx => let ⟨v, h1, h2⟩ := ((box μ ok2 hR2).2 i e hin he).2 j x hx; ⟨v, h1, hRL _ _ h2⟩⟩) (fun i e he => ⟨(hn2 i e he).1, fun j x hj => let ⟨v, h1, h2⟩ := (hn2 i e he).2 j x hj; ⟨v, h1, hRL _ _ h2⟩⟩)
          · exact he.elim
        · exact he.elim
      · exact he.elim
    · exact he.elim
  · exact he.elim
end
section
variable {P : Program} {T : Ty} {ok0 : Nat → Prop} {μ0 : List Nat} {w0 : World}
theorem pos_at : ∀ {ids : List Nat} {i k : Nat}, pos ids i = some k → ids[k]? = some i
  | [], _, _, h => by simp [pos] at h
  | a :: r, i, k, h => by
    unfold pos at h
    split at h
    · rename_i e; obtain rfl : 0 = k := by simpa using h
      simp [e]
    · cases hq : pos r i with
      | none => rw [hq] at h; simp at h
      | some q =>
        rw [hq] at h
        obtain rfl : q + 1 = k := by simpa using h
        simpa using pos_at hq
theorem pos_in : ∀ {ids : List Nat} {i : Nat}, i ∈ ids → ∃ k, pos ids i = some k
  | a :: r, i, h => by
    unfold pos
    split
    · exact ⟨0, rfl⟩
    · rename_i e
      obtain ⟨k, hk⟩ := pos_in (ids := r) (by rcases List.mem_cons.1 h with h | h; exact absurd h.symm e; exact h)
      exact ⟨k + 1, by rw [hk]; rfl⟩
theorem pos_none {ids : List Nat} {i : Nat} (h : pos ids i = none) : i ∉ ids := fun hi => by
  obtain ⟨k, hk⟩ := pos_in hi
  rw [hk] at h; cases h
theorem upto_at : ∀ (n k i : Nat), i < n → (upto k n)[i]? = some (k + i)
  | n + 1, k, 0, _ => by simp [upto]
  | n + 1, k, i + 1, h => by
    rw [upto, List.getElem?_cons_succ, upto_at n (k + 1) i (by omega)]
    congr 1; omega
theorem upto_len : ∀ (n k : Nat), (upto k n).length = n
  | 0, _ => rfl
  | n + 1, k => by rw [upto, List.length_cons, upto_len n]
theorem vw_at {es : List (List L)} {i j : Nat} {e : List L} {x : L} (h1 : es[i]? = some e) (h2 : e[j]? = some x) : vw es i j = vwC x := by
  unfold vw
  rw [List.getD_eq_getElem?_getD, List.getD_eq_getElem?_getD, h1, Option.getD_some, h2, Option.getD_some]
theorem mapM_to {α β : Type} {f : α → Option β} : ∀ {l : List α} {r : List β}, l.mapM f = some r → l.length = r.length ∧ ∀ (i : Nat) x, l[i]? = some x → ∃ y, r[i]? = some y ∧ f x = some y
  | [], r, h => by
    simp at h
    subst h
    exact ⟨rfl, fun i y hy => by simp at hy⟩
  | x :: l, r, h => by
    simp only [List.mapM_cons] at h
    cases hx : f x with
    | none => simp [hx] at h
    | some y =>
      cases hr : l.mapM f with
      | none => simp [hx, hr] at h
      | some r' =>
        simp [hx, hr] at h
        subst h
        obtain ⟨h1, h2⟩ := mapM_to hr
        refine ⟨by simp [h1], fun i z hz => ?_⟩
        cases i with
        | zero =>
          obtain rfl : x = z := by simpa using hz
          exact ⟨y, rfl, hx⟩
        | succ i => exact h2 i z hz
/-- What is told, by other numbers, in a later memory. -/
theorem RL_sub {μ μ' : List Nat} {ok ok' : Nat → Prop} {bx vbx : List B} {w w' : World} {ρ : Nat → Option Nat} (hm : Mem μ ok bx w) (hvb : ∀ (i : Nat) b, vbx[i]? = some b → bx[i]? = some b) (hk : ∀ k, ok k → ok' k) (hw : ∀ k, ok k → w'.heap[k]? = w.heap[k]?)
    (ho : ∀ g, g ∈ μ → ∀ cs t, w.heap[g]? = some (.cells cs t (0, 0)) → ∃ cs', w'.heap[g]? = some (.cells cs' t (0, 0)) ∧ cs'.size = cs.size)
    (hρ : ∀ id k g, ρ id = some k → μ[id]? = some g → μ'[k]? = some g) {l : L} {u : Value}
    (hv : ∀ id, id ∈ idsL l → ρ id = none → ∀ es sz t g, vbx[id]? = some (.arr es sz t) → μ[id]? = some g → ok' g ∧ w'.heap[g]? = w.heap[g]?)
    (h : RL μ ok w l u) : RL μ' ok' w' (subL vbx ρ l) u := by
  cases l with
  | c x => exact RC.congr hk hw x u h
  | ptr id off =>
    obtain ⟨g, h1, h2⟩ := h
    simp only [subL]
    cases hr : ρ id with
    | none => trivial
    | some k => exact ⟨g, hρ _ _ _ hr h1, h2⟩
  | ep id sz i off =>
    obtain ⟨g, h1, h2⟩ := h
    simp only [subL]
    cases hr : ρ id with
    | none => trivial
    | some k => exact ⟨g, hρ _ _ _ hr h1, h2⟩
  | rp n f =>
    obtain ⟨b, h1, h2, h3⟩ := h
    refine ⟨b, h1, hk _ h2, fun j hj => ?_⟩
    obtain ⟨v, hv, hr⟩ := h3 j hj
    refine ⟨v, ?_, RC.congr hk hw _ _ hr⟩
    rw [cell_congr (w := w) (w' := w') (a := b.add j) (by rw [add_block]; exact hw _ h2)]
    exact hv
  | own id sz o n =>
    simp only [subL]
    cases hr : ρ id with
    | some k =>
      obtain ⟨g, cap, cs, t, h1, h2, h3, h4, h5⟩ := h
      obtain ⟨cs', h6, h7⟩ := ho g (List.mem_of_getElem? h1) cs t h4
      exact ⟨g, cap, cs', t, hρ _ _ _ hr h1, h2, h3, h6, by rw [h7]; exact h5⟩
    | none =>
      simp only [viewL]
      split
      · rename_i es sz' t hb
        split
        · rename_i hc
          obtain ⟨rfl, hn⟩ := hc
          obtain ⟨g, cap, cs, t', h1, hu, hncap, hh, hcs⟩ := h
          obtain ⟨h6, h7⟩ := hv id (List.mem_singleton.2 rfl) hr es sz t g hb h1
          obtain ⟨cs2, cap2, hh2, _, hec, hcm, hel⟩ := hm.box id _ g (hvb _ _ hb) h1
          refine ⟨_, cap, hu, ⟨hncap, ?_⟩, fun i hi j hj => ?_⟩
          · have hml : maxLen ≤ 9223372036854775807 := by decide
            omega
          have he : es[o + i]? = some (es[o + i]'(by omega)) := List.getElem?_eq_getElem (by omega)
          obtain ⟨h8, h9⟩ := hel (o + i) _ he
          have hx : (es[o + i]'(by omega))[j]? = some ((es[o + i]'(by omega))[j]'(by omega)) := List.getElem?_eq_getElem (by omega)
          obtain ⟨v, hv, hr⟩ := h9 j _ hx
          refine ⟨⟨g, o * sz, none⟩, v, rfl, h6, ?_, ?_⟩
          · rw [add_lit, ← Nat.add_assoc, ← Nat.add_mul]
            simp only [World.cell?, h7, hh2]
            simpa using hv
          · show RC ok' w' (vw es (o + i) j) v
            rw [vw_at he hx]
            cases hxx : (es[o + i]'(by omega))[j]'(by omega) with
            | c y => rw [hxx] at hr; exact RC.congr hk hw y v hr
            | _ => trivial
        · trivial
      · trivial
  | fn f caps =>
    obtain ⟨gs, h1, h2, h3⟩ := h
    simp only [subL]
    cases hr : caps.mapM ρ with
    | none => trivial
    | some cs =>
      obtain ⟨h4, h5⟩ := mapM_to hr
      refine ⟨gs, by rw [h1, h4], fun j k hj => ?_, h3⟩
      have hjl : j < caps.length := by rw [h4]; exact at_in hj
      obtain ⟨y, h6, h7⟩ := h5 j _ (List.getElem?_eq_getElem hjl)
      rw [hj] at h6
      obtain rfl : k = y := by simpa using h6
      obtain ⟨g, h8, h9⟩ := h2 j _ (List.getElem?_eq_getElem hjl)
      exact ⟨g, h8, hρ _ _ _ h7 h9⟩
  | junk => trivial
theorem RLs_map {R R' : L → Value → Prop} {f : L → L} {ls : List L} {cs : List Value} (h : ∀ l, l ∈ ls → ∀ u, R l u → R' (f l) u) (hr : RLs R ls cs) : RLs R' (ls.map f) cs := by
  refine ⟨by rw [List.length_map]; exact hr.1, fun j l hl => ?_⟩
  rw [List.getElem?_map] at hl
  cases hq : ls[j]? with
  | none => rw [hq] at hl; simp at hl
  | some q =>
    rw [hq] at hl
    obtain rfl : f q = l := by simpa using hl
    obtain ⟨v, h1, h2⟩ := hr.2 j q hq
    exact ⟨v, h1, h q (List.mem_of_getElem? hq) v h2⟩
theorem RA_map {R R' : L → Value → Prop} {f : L → L} : ∀ (a : A) (u : Value), (∀ l, leafIn l a → ∀ u, R l u → R' (f l) u) → RA R a u → RA R' (mapA f a) u
  | .one l, u, h, hr => h l rfl u hr
  | .agg ls, u, h, hr => by
    obtain ⟨cs, h1, h2⟩ := hr
    exact ⟨cs, h1, RLs_map (fun l hl => h l hl) h2⟩
  | .tup xs, u, h, hr => by
    obtain ⟨vs, h1, h2, h3⟩ := hr
    refine ⟨vs, h1, by rw [List.length_map]; exact h2, fun j y hy => ?_⟩
    rw [List.getElem?_map] at hy
    cases hq : xs[j]? with
    | none => rw [hq] at hy; simp at hy
    | some q =>
      rw [hq] at hy
      obtain rfl : (q.1.map f, q.2) = y := by simpa using hy
      obtain ⟨v, h4, h5⟩ := h3 j q hq
      have hin : ∀ l, l ∈ q.1 → ∀ u, R l u → R' (f l) u := fun l hl => h l ⟨q, List.mem_of_getElem? hq, hl⟩
      refine ⟨v, h4, fun hx => ?_, fun hx => ?_⟩
      · obtain ⟨cs, h6, h7⟩ := h5.1 hx
        exact ⟨cs, h6, RLs_map hin h7⟩
      · obtain ⟨l, h6, h7⟩ := h5.2 hx
        exact ⟨f l, by simp [h6], hin l (by rw [h6]; exact List.mem_singleton.2 rfl) _ h7⟩
  | .opt g a, u, h, hr => ⟨fun hg => RA_map a u h (hr.1 hg), hr.2⟩
theorem ids_leaf {l : L} {id : Nat} (hid : id ∈ idsL l) : ∀ (a : A), leafIn l a → id ∈ idsA a
  | .one l', h => by have e : l = l' := h; subst e; exact hid
  | .agg ls, h => List.mem_flatMap.2 ⟨l, h, hid⟩
  | .tup xs, h => by
    obtain ⟨x, h1, h2⟩ := h
    exact List.mem_flatMap.2 ⟨x, h1, List.mem_flatMap.2 ⟨l, h2, hid⟩⟩
  | .opt g a, h => ids_leaf hid a h
theorem BoxR_map {μ μ' : List Nat} {ok ok' : Nat → Prop} {w w' : World} {g : Nat} {f : L → L} (b : B) (hRL : ∀ l u, RL μ ok w l u → RL μ' ok' w' (f l) u) (hg : b ≠ .hid → w'.heap[g]? = w.heap[g]?) (h : BoxR μ ok w g b) : BoxR μ' ok' w' g (mapB f b) := by
  cases b with
  | var ls t =>
    obtain ⟨cs, h1, h2⟩ := h
    exact ⟨cs, by rw [hg (by simp)]; exact h1, RLs_map (fun l _ u hl => hRL l u hl) h2⟩
  | arr es sz t =>
    obtain ⟨cs, cap, h1, h2, h3, h4, h5⟩ := h
    refine ⟨cs, cap, by rw [hg (by simp)]; exact h1, h2, by rw [List.length_map]; exact h3, h4, fun i e he => ?_⟩
    rw [List.getElem?_map] at he
    cases hq : es[i]? with
    | none => rw [hq] at he; simp at he
    | some q =>
      rw [hq] at he
      obtain rfl : q.map f = e := by simpa using he
      obtain ⟨h6, h7⟩ := h5 i q hq
      refine ⟨by rw [List.length_map]; exact h6, fun j x hx => ?_⟩
      rw [List.getElem?_map] at hx
      cases hr : q[j]? with
      | none => rw [hr] at hx; simp at hx
      | some y =>
        rw [hr] at hx
        obtain rfl : f y = x := by simpa using hx
        obtain ⟨v, h8, h9⟩ := h7 j y hr
        exact ⟨v, h8, hRL _ _ h9⟩
  | iter s p => show w'.heap[g]? = _; rw [hg (by simp)]; exact h
  | hid => trivial
theorem mapB_hid {f : L → L} {b : B} (h : mapB f b ≠ .hid) : b ≠ .hid := fun e => h (by rw [e]; rfl)
theorem getD_at {l : List Nat} {i g : Nat} (h : l[i]? = some g) : l.getD i 0 = g := by rw [List.getD_eq_getElem?_getD, h]; rfl
theorem nodup_inj {l : List Nat} (h : l.Nodup) {i j x : Nat} (hi : l[i]? = some x) (hj : l[j]? = some x) : i = j := by
  obtain ⟨h1, h2⟩ := List.getElem?_eq_some_iff.1 hi
  obtain ⟨h3, h4⟩ := List.getElem?_eq_some_iff.1 hj
  have hp := List.pairwise_iff_getElem.1 h
  rcases Nat.lt_trichotomy i j with hlt | he | hlt
  · exact absurd (h2.trans h4.symm) (hp i j h1 h3 hlt)
  · exact he
  · exact absurd (h4.trans h2.symm) (hp j i h3 h1 hlt)
/-- Some of the blocks, by new numbers. -/
theorem Mem_pick {μ : List Nat} {ok ok' : Nat → Prop} {bx : List B} {w : World} (hm : Mem μ ok bx w) {ids : List Nat} (hids : ∀ i, i ∈ ids → i < bx.length) (hnd : ids.Nodup) {f : L → L} (hRL : ∀ l u, RL μ ok w l u → RL (ids.map fun i => μ.getD i 0) ok' w (f l) u)
    (hok : ∀ i b g, i ∈ ids → bx[i]? = some b → b ≠ .hid → μ[i]? = some g → ¬ ok' g) (hsm : ∀ k, ok' k → k < w.heap.size) (hup : ∀ k, ok k → ok' k) : Mem (ids.map fun i => μ.getD i 0) ok' (ids.map fun i => mapB f (bx.getD i .hid)) w := by
  have hml := hm.len
  have atB : ∀ (i : Nat) b, (ids.map fun i => mapB f (bx.getD i .hid))[i]? = some b → ∃ id b0, ids[i]? = some id ∧ bx[id]? = some b0 ∧ b = mapB f b0 := by
    intro i b h
    rw [List.getElem?_map] at h
    cases hq : ids[i]? with
    | none => rw [hq] at h; simp at h
    | some id =>
      rw [hq] at h
      have hlt := hids id (List.mem_of_getElem? hq)
      refine ⟨id, _, rfl, List.getElem?_eq_getElem hlt, ?_⟩
      rw [Option.map_some, List.getD_eq_getElem?_getD, List.getElem?_eq_getElem hlt] at h
      simpa using h.symm
  have atM : ∀ (i : Nat) g, (ids.map fun i => μ.getD i 0)[i]? = some g → ∃ id, ids[i]? = some id ∧ μ[id]? = some g := by
    intro i g h
    rw [List.getElem?_map] at h
    cases hq : ids[i]? with
    | none => rw [hq] at h; simp at h
    | some id =>
      rw [hq] at h
      have hlt : id < μ.length := by rw [hml]; exact hids id (List.mem_of_getElem? hq)
      refine ⟨id, rfl, ?_⟩
      rw [Option.map_some, List.getD_eq_getElem?_getD, List.getElem?_eq_getElem hlt] at h
      rw [List.getElem?_eq_getElem hlt]
      simpa using h
  refine ⟨by simp, ?_, ?_, ?_, hsm, ?_, hm.gl.keep hup (fun _ _ => rfl)⟩
  · intro i j b b' g h1 h2 hn1 hn2 h3 h4
    obtain ⟨id, b0, h5, h6, rfl⟩ := atB i b h1
    obtain ⟨jd, b1, h7, h8, rfl⟩ := atB j b' h2
    obtain ⟨id', h9, h10⟩ := atM i g h3
    obtain ⟨jd', h11, h12⟩ := atM j g h4
    rw [h5] at h9; rw [h7] at h11
    obtain rfl : id = id' := by simpa using h9
    obtain rfl : jd = jd' := by simpa using h11
    have he := hm.nd id jd b0 b1 g h6 h8 (mapB_hid hn1) (mapB_hid hn2) h10 h12
    subst he
    exact nodup_inj hnd h5 h7
  · intro i b g h1 h2 hn
    obtain ⟨id, b0, h5, h6, rfl⟩ := atB i b h1
    obtain ⟨id', h9, h10⟩ := atM i g h2
    rw [h5] at h9
    obtain rfl : id = id' := by simpa using h9
    exact hok id b0 g (List.mem_of_getElem? h5) h6 (mapB_hid hn) h10
  · intro g hg
    obtain ⟨i, hi⟩ := List.getElem?_of_mem hg
    obtain ⟨id, h9, h10⟩ := atM i g hi
    exact hm.there g (List.mem_of_getElem? h10)
  · intro i b g h1 h2
    obtain ⟨id, b0, h5, h6, rfl⟩ := atB i b h1
    obtain ⟨id', h9, h10⟩ := atM i g h2
    rw [h5] at h9
    obtain rfl : id = id' := by simpa using h9
    exact BoxR_map b0 hRL (fun _ => rfl) (hm.box id b0 g h6 h10)
/-- All that is not kept is never written again. -/
def frozenBy (μ : List Nat) (bx : List B) (ids : List Nat) (ok : Nat → Prop) : Nat → Prop := fun k => ok k ∨ ∃ i b, i ∉ ids ∧ bx[i]? = some b ∧ b ≠ .hid ∧ μ[i]? = some k
theorem RL_pick {μ : List Nat} {ok : Nat → Prop} {bx : List B} {w : World} (hm : Mem μ ok bx w) (ids : List Nat) {l : L} {u : Value} (h : RL μ ok w l u) : RL (ids.map fun i => μ.getD i 0) (frozenBy μ bx ids ok) w (subL bx (pos ids) l) u :=
  RL_sub hm (fun _ _ h => h) (fun _ h => .inl h) (fun _ _ => rfl) (fun g _ cs t h => ⟨cs, h, rfl⟩) (fun id k g hr hg => by rw [List.getElem?_map, pos_at hr, Option.map_some, getD_at hg])
    (fun id _ hr es sz t g hb hg => ⟨.inr ⟨id, _, pos_none hr, hb, by simp, hg⟩, rfl⟩) h
theorem Mem_keep {μ : List Nat} {ok : Nat → Prop} {bx : List B} {w : World} (hm : Mem μ ok bx w) {ids : List Nat} (hids : ∀ i, i ∈ ids → i < bx.length) (hnd : ids.Nodup) :
    Mem (ids.map fun i => μ.getD i 0) (frozenBy μ bx ids ok) (ids.map fun i => mapB (subL bx (pos ids)) (bx.getD i .hid)) w := by
  refine Mem_pick hm hids hnd (fun l u h => RL_pick hm ids h) (fun i b g h1 h2 h3 h4 h5 => ?_) (fun k hk => ?_) (fun _ h => .inl h)
  · rcases h5 with h5 | ⟨j, b', h6, h7, h8, h9⟩
    · exact hm.live i b g h2 h4 h3 h5
    · exact h6 (hm.nd i j b b' g h2 h7 h3 h8 h4 h9 ▸ h1)
  · rcases hk with hk | ⟨j, b', h6, h7, h8, h9⟩
    · exact hm.small k hk
    · exact hm.there k (List.mem_of_getElem? h9)
/-- The lent blocks stand where they stood. -/
theorem ids_prefix {σ : St} {μ0 ν js : List Nat} (hm : σ.m = μ0.length) : (σ.ids js).map (fun i => (μ0 ++ ν).getD i 0) = μ0 ++ js.map (fun i => (μ0 ++ ν).getD i 0) := by
  unfold St.ids
  rw [List.map_append]
  congr 1
  apply List.ext_getElem?
  intro i
  rw [List.getElem?_map]
  by_cases hi : i < σ.m
  · rw [upto_at _ _ _ hi, Option.map_some, Nat.zero_add, List.getD_eq_getElem?_getD, List.getElem?_append_left (by omega), List.getElem?_eq_getElem (by omega)]
    rfl
  · rw [List.getElem?_eq_none (by rw [upto_len]; omega), List.getElem?_eq_none (by omega)]
    rfl
theorem good_lt {σ : St} {a : Act} {w : World} {ν js : List Nat} {ok : Nat → Prop} (hm : σ.m = μ0.length) (hR : Rl (μ0 ++ ν) ok σ a w) (hg : σ.good js) : ∀ i, i ∈ σ.ids js → i < σ.bx.length := by
  intro i hi
  rcases List.mem_append.1 hi with h | h
  · obtain ⟨q, hq⟩ := List.getElem?_of_mem h
    have hql := at_in hq
    rw [upto_len] at hql
    rw [upto_at _ _ _ hql] at hq
    have := hR.mem.len
    rw [List.length_append] at this
    have : 0 + q = i := by simpa using hq
    omega
  · exact hg.2 i h
theorem Out.keep {σ : St} {a : Act} {w : World} {ν js : List Nat} {ok : Nat → Prop} (hm : σ.m = μ0.length) (hR : Rl (μ0 ++ ν) ok σ a w) (hO : Out ok0 μ0 w0 ν ok w) (hg : σ.good js) : Out ok0 μ0 w0 (js.map fun i => (μ0 ++ ν).getD i 0) (frozenBy (μ0 ++ ν) σ.bx (σ.ids js) ok) w := by
  have hall : ∀ g, g ∈ μ0 ++ ν → w0.heap.size ≤ g ∨ g ∈ μ0 := by
    intro g h
    rcases List.mem_append.1 h with h | h
    · exact .inr h
    · exact hO.new g h
  refine ⟨hO.fw, fun k hk => .inl (hO.ok1 k hk), fun k hk => ?_, fun g h => ?_⟩
  · rcases hk with hk | ⟨j, b', h6, h7, h8, h9⟩
    · exact hO.ok2 k hk
    · exact .inr (hall k (List.mem_of_getElem? h9))
  · obtain ⟨i, hi, rfl⟩ := List.mem_map.1 h
    have hlt : i < (μ0 ++ ν).length := by rw [hR.mem.len]; exact hg.2 i hi
    rw [List.getD_eq_getElem?_getD, List.getElem?_eq_getElem hlt]
    exact hall _ (List.getElem_mem hlt)
theorem lk_keys (f : A → A) (tm : List (Nat × A)) : ∀ (ks : List Nat) (t : Nat), lk (ks.map fun k => (k, f (lk tm k))) t = if t ∈ ks then f (lk tm t) else .one .junk
  | [], t => by simp [lk]
  | k :: r, t => by
    rw [List.map_cons, lk, lk_keys f tm r t]
    by_cases e : k = t
    · subst e; simp
    · rw [if_neg e]
      have : (t ∈ k :: r) ↔ t ∈ r := by simp [Ne.symm e]
      simp only [this]
theorem Rel.keep {σ : St} {a : Act} {w : World} (h : Rel ok0 μ0 w0 σ a w) (ks js : List Nat) (hg : σ.good js) : Rel ok0 μ0 w0 (σ.keep ks js) a w := by
  obtain ⟨ν, ok, hm, hR, hO⟩ := h
  have hp := ids_prefix (ν := ν) (js := js) hm
  have h1 := Mem_keep hR.mem (good_lt hm hR hg) hg.1
  rw [hp] at h1
  refine ⟨_, _, hm, ⟨h1, hR.nt, fun t => ?_, hR.df⟩, hO.keep hm hR hg⟩
  show RA _ (lk (ks.map fun k => (k, mapA (subL σ.bx (pos (σ.ids js))) (lk σ.tm k))) t) _
  rw [lk_keys]
  split
  · rw [← hp]
    exact RA_map _ _ (fun l _ u hl => RL_pick hR.mem _ hl) (hR.tm t)
  · trivial
end
section
variable {P : Program} {T : Ty} {ok0 : Nat → Prop} {μ0 : List Nat} {w0 : World}
theorem putBack_len : ∀ (is : List Nat) (bs bx : List B), (putBack bx is bs).length = bx.length
  | [], bs, bx => by cases bs <;> rfl
  | i :: is, [], bx => rfl
  | i :: is, b :: bs, bx => by rw [putBack, putBack_len is bs, List.length_set]
theorem putBack_at : ∀ (is : List Nat) (bs bx : List B), is.Nodup → is.length = bs.length → (∀ i, i ∈ is → i < bx.length) → ∀ j, (putBack bx is bs)[j]? = match pos is j with | some q => bs[q]? | none => bx[j]?
  | [], [], bx, _, _, _, j => rfl
  | [], b :: bs, bx, _, h, _, _ => by simp at h
  | i :: is, [], bx, _, h, _, _ => by simp at h
  | i :: is, b :: bs, bx, hn, hl, hi, j => by
    rw [List.nodup_cons] at hn
    rw [putBack, putBack_at is bs (bx.set i b) hn.2 (by simpa using hl) (fun k hk => by rw [List.length_set]; exact hi k (List.mem_cons_of_mem _ hk)) j]
    simp only [pos]
    by_cases e : i = j
    · subst e
      rw [if_pos rfl]
      have : pos is i = none := by
        cases hq : pos is i with
        | none => rfl
        | some q => exact absurd (List.mem_of_getElem? (pos_at hq)) hn.1
      rw [this]
      simp [hi i List.mem_cons_self]
    · rw [if_neg e]
      cases hq : pos is j with
      | none => simp [List.getElem?_set, e]
      | some q => simp
/-- The memory behind a call: the callee's blocks, lent and new, among the caller's. -/
theorem Rl.back {μ ν2 lids : List Nat} {ok ok3 ok4 : Nat → Prop} {σ σb : St} {a : Act} {w w' : World} {fz : L → L} {bxc : List B} (h : Rl μ ok σ a w) (hl : lids.Nodup) (hnh : ∀ i, i ∈ lids → ∃ b, σ.bx[i]? = some b ∧ b ≠ .hid)
    (hm2 : Mem (lids.map (fun i => μ.getD i 0) ++ ν2) ok3 bxc w') (hν : ∀ g, g ∈ ν2 → w.heap.size ≤ g ∨ g ∈ lids.map fun i => μ.getD i 0) (hF : Fw (lids.map fun i => μ.getD i 0) w w')
    (h14 : ∀ k, ok k → ok4 k) (h43 : ∀ k, ok4 k → ok3 k) (hnt : σb.nt = σ.nt) (hlen : σb.bx.length = σ.bx.length)
    (htm : ∀ t, lk σb.tm t = mapA fz (lk σ.tm t)) (hfz : ∀ l u, RL μ ok w l u → RL (μ ++ ν2) ok4 w' (fz l) u)
    (hbx : ∀ (i : Nat) b, i ∉ lids → σb.bx[i]? = some b → b = .hid ∨ ∃ b0, σ.bx[i]? = some b0 ∧ b = mapB fz b0)
    (hlive : ∀ (i : Nat) b g, i ∉ lids → σb.bx[i]? = some b → b ≠ .hid → μ[i]? = some g → ¬ ok4 g)
    (hup : ∀ (i : Nat) b l u, bxc[i]? = some b → (match b with | .var ls _ => l ∈ ls | .arr es _ _ => ∃ e, e ∈ es ∧ l ∈ e | _ => False) → RL (lids.map (fun i => μ.getD i 0) ++ ν2) ok3 w' l u → RL (μ ++ ν2) ok4 w' (subL [] (up lids σ.bx.length) l) u) :
    Rl (μ ++ ν2) ok4 (σb.after lids σ.bx.length bxc) a w' := by
  have hml := h.mem.len
  have hcl := hm2.len
  rw [List.length_append, List.length_map] at hcl
  have hll : ∀ i, i ∈ lids → i < σ.bx.length := fun i hi => let ⟨b, hb, _⟩ := hnh i hi; at_in hb
  -- blocks
  have hμc : ∀ (q : Nat), q < lids.length → ∀ i, lids[q]? = some i → (lids.map (fun i => μ.getD i 0) ++ ν2)[q]? = μ[i]? := by
    intro q hq i hi
    rw [List.getElem?_append_left (by rw [List.length_map]; exact hq), List.getElem?_map, hi, Option.map_some, List.getD_eq_getElem?_getD]
    have : i < μ.length := by rw [hml]; exact hll i (List.mem_of_getElem? hi)
    rw [List.getElem?_eq_getElem this]; rfl
  have hμn : ∀ (i : Nat), μ.length ≤ i → (μ ++ ν2)[i]? = (lids.map (fun i => μ.getD i 0) ++ ν2)[lids.length + (i - μ.length)]? := by
    intro i hi
    rw [List.getElem?_append_right hi, List.getElem?_append_right (by rw [List.length_map]; omega), List.length_map]
    congr 1; omega
  have htk : (bxc.take lids.length).length = lids.length := by rw [List.length_take]; omega
  have hpl : (putBack σb.bx lids ((bxc.take lids.length).map (mapB (subL [] (up lids σ.bx.length))))).length = μ.length := by rw [putBack_len, hlen, hml]
  have at_new : ∀ (i : Nat) b, (σb.after lids σ.bx.length bxc).bx[i]? = some b → (∃ q bc, bxc[q]? = some bc ∧ b = mapB (subL [] (up lids σ.bx.length)) bc ∧ (μ ++ ν2)[i]? = (lids.map (fun i => μ.getD i 0) ++ ν2)[q]? ∧ (q < lids.length → lids[q]? = some i) ∧ (lids.length ≤ q → i = μ.length + (q - lids.length))) ∨
      (i < μ.length ∧ i ∉ lids ∧ σb.bx[i]? = some b ∧ (μ ++ ν2)[i]? = μ[i]?) := by
    intro i b hb
    unfold St.after at hb
    simp only at hb
    by_cases hi : i < μ.length
    · rw [List.getElem?_append_left (by omega), putBack_at _ _ _ hl (by rw [List.length_map, htk]) (fun j hj => by rw [hlen]; exact hll j hj)] at hb
      have hmi : (μ ++ ν2)[i]? = μ[i]? := List.getElem?_append_left hi
      cases hq : pos lids i with
      | none =>
        rw [hq] at hb
        exact .inr ⟨hi, pos_none hq, hb, hmi⟩
      | some q =>
        rw [hq] at hb
        simp only at hb
        have hqi := pos_at hq
        have hql := at_in hqi
        rw [List.getElem?_map, List.getElem?_take, if_pos hql] at hb
        cases hbc : bxc[q]? with
        | none => rw [hbc] at hb; simp at hb
        | some bc =>
          rw [hbc] at hb
          exact .inl ⟨q, bc, hbc, by simpa using hb.symm, by rw [hmi, hμc q hql i hqi], fun _ => hqi, fun h => by omega⟩
    · rw [List.getElem?_append_right (by omega), hpl, List.getElem?_map, List.getElem?_drop] at hb
      cases hbc : bxc[lids.length + (i - μ.length)]? with
      | none => rw [hbc] at hb; simp at hb
      | some bc =>
        rw [hbc] at hb
        exact .inl ⟨_, bc, hbc, by simpa using hb.symm, hμn i (by omega), fun h => by omega, fun _ => by omega⟩
  -- a block of the caller that is not lent is none of the callee's
  have apart : ∀ (i : Nat) b g, i ∉ lids → σ.bx[i]? = some b → b ≠ .hid → μ[i]? = some g → ∀ q : Nat, (lids.map (fun i => μ.getD i 0) ++ ν2)[q]? ≠ some g := by
    intro i b g hi hb hne hg q hq
    have lent : ∀ x, x ∈ lids.map (fun i => μ.getD i 0) → x ≠ g := by
      intro x hx e
      subst e
      obtain ⟨j, hj, hjx⟩ := List.mem_map.1 hx
      obtain ⟨b', hb', hne'⟩ := hnh j hj
      have hjl : j < μ.length := by rw [hml]; exact at_in hb'
      have hjg : μ[j]? = some x := by
        rw [List.getD_eq_getElem?_getD, List.getElem?_eq_getElem hjl] at hjx
        rw [List.getElem?_eq_getElem hjl]
        simpa using hjx
      exact hi (h.mem.nd i j b b' x hb hb' hne hne' hg hjg ▸ hj)
    rcases List.mem_append.1 (List.mem_of_getElem? hq) with hx | hx
    · exact lent g hx rfl
    · rcases hν g hx with h2 | h2
      · exact Nat.lt_irrefl _ (Nat.lt_of_lt_of_le (h.mem.there g (List.mem_of_getElem? hg)) h2)
      · exact lent g h2 rfl
  have own : ∀ (i : Nat) b, i ∉ lids → σb.bx[i]? = some b → b ≠ .hid → ∃ b0, σ.bx[i]? = some b0 ∧ b0 ≠ .hid ∧ b = mapB fz b0 := by
    intro i b h1 h2 h3
    rcases hbx i b h1 h2 with h4 | ⟨b0, h4, h5⟩
    · exact absurd h4 h3
    · exact ⟨b0, h4, by rw [h5] at h3; exact mapB_hid h3, h5⟩
  have hgl : Gl ok4 w' := h.mem.gl.keep h14 (fun k hk => hF.block k (h.mem.small k hk) (fun hm => by
    obtain ⟨j, hj, hjx⟩ := List.mem_map.1 hm
    obtain ⟨b', hb', hne'⟩ := hnh j hj
    have hjl : j < μ.length := by rw [h.mem.len]; exact at_in hb'
    have hjg : μ[j]? = some k := by
      rw [List.getD_eq_getElem?_getD, List.getElem?_eq_getElem hjl] at hjx
      rw [List.getElem?_eq_getElem hjl]
      simpa using hjx
    exact h.mem.live j b' k hb' hjg hne' hk))
  refine ⟨⟨?_, ?_, ?_, ?_, fun k hk => hm2.small k (h43 k hk), ?_, hgl⟩, by show a.tmps.size = σb.nt; rw [hnt]; exact h.nt, fun t => ?_, h.df⟩
  · show _ = (putBack _ _ _ ++ _).length
    rw [List.length_append, List.length_append, hpl, List.length_map, List.length_drop]
    omega
  · intro i j b1 b2 g h1 h2 hn1 hn2 h3 h4
    rcases at_new i b1 h1 with ⟨q, bc, hq, rfl, hgi, hqi, hqi'⟩ | ⟨hi, hil, hb1, hgi⟩ <;> rcases at_new j b2 h2 with ⟨q', bc', hq', rfl, hgj, hqj, hqj'⟩ | ⟨hj, hjl, hb2, hgj⟩
    · rw [hgi] at h3
      rw [hgj] at h4
      have he := hm2.nd q q' bc bc' g hq hq' (mapB_hid hn1) (mapB_hid hn2) h3 h4
      subst he
      by_cases hlt : q < lids.length
      · have e1 := hqi hlt
        rw [hqj hlt] at e1
        simpa using e1.symm
      · rw [hqi' (by omega), hqj' (by omega)]
    · rw [hgi] at h3
      rw [hgj] at h4
      obtain ⟨b0, h5, h6, _⟩ := own j b2 hjl hb2 hn2
      exact absurd h3 (apart j b0 g hjl h5 h6 h4 q)
    · rw [hgi] at h3
      rw [hgj] at h4
      obtain ⟨b0, h5, h6, _⟩ := own i b1 hil hb1 hn1
      exact absurd h4 (apart i b0 g hil h5 h6 h3 q')
    · rw [hgi] at h3
      rw [hgj] at h4
      obtain ⟨b0, h5, h6, _⟩ := own i b1 hil hb1 hn1
      obtain ⟨b0', h5', h6', _⟩ := own j b2 hjl hb2 hn2
      exact h.mem.nd i j b0 b0' g h5 h5' h6 h6' h3 h4
  · intro i b g h1 h2 hne hk
    rcases at_new i b h1 with ⟨q, bc, hq, rfl, hgi, _, _⟩ | ⟨hi, hil, hb1, hgi⟩
    · rw [hgi] at h2
      exact hm2.live q bc g hq h2 (mapB_hid hne) (h43 g hk)
    · rw [hgi] at h2
      exact hlive i b g hil hb1 hne h2 hk
  · intro g hg
    rcases List.mem_append.1 hg with hg | hg
    · exact Nat.lt_of_lt_of_le (h.mem.there g hg) hF.size
    · exact hm2.there g (List.mem_append_right _ hg)
  · intro i b g h1 h2
    rcases at_new i b h1 with ⟨q, bc, hq, rfl, hgi, _, _⟩ | ⟨hi, hil, hb1, hgi⟩
    · rw [hgi] at h2
      have hb := hm2.box q bc g hq h2
      cases bc with
      | var ls t =>
        obtain ⟨cs, h5, h6⟩ := hb
        exact ⟨cs, h5, RLs_map (fun l hl u hr => hup q _ l u hq hl hr) h6⟩
      | arr es sz t =>
        obtain ⟨cs, cap, h5, h6, h7, h8, h9⟩ := hb
        refine ⟨cs, cap, h5, h6, by rw [List.length_map]; exact h7, h8, fun i e he => ?_⟩
        rw [List.getElem?_map] at he
        cases hq2 : es[i]? with
        | none => rw [hq2] at he; simp at he
        | some e0 =>
          rw [hq2] at he
          obtain rfl : e0.map (subL [] (up lids σ.bx.length)) = e := by simpa using he
          obtain ⟨h10, h11⟩ := h9 i e0 hq2
          refine ⟨by rw [List.length_map]; exact h10, fun j x hx => ?_⟩
          rw [List.getElem?_map] at hx
          cases hr : e0[j]? with
          | none => rw [hr] at hx; simp at hx
          | some y =>
            rw [hr] at hx
            obtain rfl : subL [] (up lids σ.bx.length) y = x := by simpa using hx
            obtain ⟨v, h12, h13⟩ := h11 j y hr
            exact ⟨v, h12, hup q _ y v hq ⟨e0, List.mem_of_getElem? hq2, List.mem_of_getElem? hr⟩ h13⟩
      | iter s p => exact hb
      | hid => trivial
    · rw [hgi] at h2
      by_cases hne : b = .hid
      · subst hne; trivial
      obtain ⟨b0, h5, h6, rfl⟩ := own i b hil hb1 hne
      refine BoxR_map b0 hfz (fun _ => hF.block g (h.mem.there g (List.mem_of_getElem? h2)) (fun hx => ?_)) (h.mem.box i b0 g h5 h2)
      obtain ⟨q, hq⟩ := List.getElem?_of_mem hx
      exact apart i b0 g hil h5 h6 h2 q (by rw [List.getElem?_append_left (at_in hq)]; exact hq)
  · show RA _ (lk σb.tm t) _
    rw [htm]
    exact RA_map _ _ (fun l _ u hl => hfz l u hl) (h.tm t)
end
section
variable {P : Program} {T : Ty} {ok0 : Nat → Prop} {μ0 ν : List Nat} {w0 : World}
theorem run_call {o : Oper} {f : Operand} {xs : Array Operand} {ts : Array TypeId} {ρ : Operand → Value} {g : FuncId} {caps : Array Value} {fn : Func} {w : World} (hop : o.op = .call ⟨.value f, xs, ts⟩) (hf : ρ f = .func (.func g) #[] caps)
    (h1 : P.funcs[g]? = some fn) (h2 : (fn.name == "runtime.NumGoroutine") = false) (h3 : fn.body.isSome = true) : (execOp ρ o).run P w = .ok (.enter g (xs.map ρ ++ caps)) w := by
  have hn : fn.name ≠ "runtime.NumGoroutine" := by simpa using h2
  obtain ⟨c, hc⟩ := Option.isSome_iff_exists.1 h3
  have he : (callFunc g (xs.map ρ ++ caps)).run P w = .ok (.enter g (xs.map ρ ++ caps)) w := by simp [callFunc, h1, hn, hc]
  unfold execOp
  simp [hop, resolve, Deferred.ofValue, invoke, hf, he]
theorem clean_ok {μ : List Nat} {ok ok' : Nat → Prop} {w : World} {l : L} {u : Value} (hc : cleanL l = true) (h : RL μ ok w l u) : RL μ ok' w l u := by
  cases l with
  | c x => cases x with
    | v x => exact h
    | sl n sz f => simp [cleanL] at hc
    | any => trivial
    | ifc => exact h
  | rp n f => simp [cleanL] at hc
  | _ => exact h
theorem clean_sub {ρ : Nat → Option Nat} {l : L} (hc : cleanL l = true) : cleanL (subL [] ρ l) = true := by
  cases l with
  | c x => exact hc
  | rp n f => simp [cleanL] at hc
  | own id sz o n => simp only [subL]; cases ρ id <;> rfl
  | ptr id off => simp only [subL]; cases ρ id <;> rfl
  | ep id sz i off => simp only [subL]; cases ρ id <;> rfl
  | fn f caps => simp only [subL]; cases caps.mapM ρ <;> rfl
  | junk => rfl
theorem mapA_id {f : L → L} (hf : ∀ l, f l = l) : ∀ a : A, mapA f a = a
  | .one l => by rw [mapA, hf]
  | .agg ls => by rw [mapA]; congr 1; exact List.map_id'' hf ls
  | .tup xs => by
    rw [mapA]; congr 1
    refine List.map_id'' (fun x => ?_) xs
    rw [show x.1.map f = x.1 from List.map_id'' hf x.1]
  | .opt g a => by rw [mapA, mapA_id hf a]
theorem mapB_id {f : L → L} (hf : ∀ l, f l = l) (b : B) : mapB f b = b := by
  cases b with
  | var ls t => simp only [mapB]; rw [List.map_id'' hf]
  | arr es sz t => simp only [mapB]; rw [List.map_id'' (fun e => List.map_id'' hf e)]
  | _ => rfl
theorem Fw.mono {μ μ' : List Nat} {w w' : World} (h : Fw μ w w') (hs : ∀ g, g ∈ μ → g ∈ μ') : Fw μ' w w' :=
  ⟨h.os, h.tape, h.output, h.size, fun k hk hn => h.block k hk (fun hm => hn (hs k hm)), h.kept⟩
theorem freeze_at {bx : List B} {f : B → B} {ids : List Nat} {i : Nat} {b : B} (h : ((bx.map f).zipIdx.map fun p => if p.2 ∈ ids then B.hid else p.1)[i]? = some b) : ∃ b0, bx[i]? = some b0 ∧ b = if i ∈ ids then .hid else f b0 := by
  rw [List.getElem?_map, List.getElem?_zipIdx, List.getElem?_map] at h
  cases hq : bx[i]? with
  | none => rw [hq] at h; simp at h
  | some q =>
    rw [hq] at h
    refine ⟨q, rfl, ?_⟩
    simpa using h.symm
theorem lk_map (f : A → A) (hf : f (.one .junk) = .one .junk) (t : Nat) : ∀ (tm : List (Nat × A)), lk (tm.map fun p => (p.1, f p.2)) t = f (lk tm t)
  | [] => hf.symm
  | p :: r => by
    simp only [List.map_cons, lk]
    split
    · rfl
    · exact lk_map f hf t r
theorem call_ok {gr : Option (List Nat)} {σ : St} {a : Act} {w : World} {o : Oper} {f : Operand} {xs : Array Operand} {ts : Array TypeId} {g : FuncId} {caps lids : List Nat} {k : A → St → Prop} {K : Act → World → Prop} {Q : Exit → Act → World → Prop} (hop : o.op = .call ⟨.value f, xs, ts⟩) (h : RelX ok0 μ0 w0 ν σ a w)
    (hf : strip (σ.ev f) = (true, .one (.fn g caps))) (hx : (xs.toList.all fun x => (strip (σ.ev x)).1) = true) (hgr : lentIn gr lids) (hnd : lids.Nodup) (hnh : (lids.all fun i => notHid σ.bx[i]?) = true)
    (hc : PC P g (((xs.toList.map fun x => (strip (σ.ev x)).2).map fun x => mapA (subL σ.bx (pos lids)) x) ++ caps.map fun c => .one (subL σ.bx (pos lids) (.ptr c 0))) (lids.map fun i => mapB (subL [] (pos lids)) (σ.bx.getD i .hid))
      (callK σ lids (((xs.toList.map fun x => (strip (σ.ev x)).2).flatMap idsA).filter fun i => !lids.contains i) k))
    (hK : ∀ r σ' v w', RelA ok0 μ0 w0 ν σ' a w' r v → (∀ D, gr = some D → Fw (D.map fun i => (μ0 ++ ν).getD i 0) w w') → k r σ' → K (a.put o.dst v) w') : o.wp P a w K Q := by
  obtain ⟨ok, hm, hR, hO⟩ := h
  rw [List.map_map, List.flatMap_map] at hc
  obtain ⟨⟨fn, hf1, hf2, hf3⟩, hcall⟩ := hc
  have hfv : ∃ cs : Array Value, a.eval f = .func (.func g) #[] cs ∧ cs.size = caps.length ∧ ∀ (j : Nat) id, caps[j]? = some id → ∃ gb, (μ0 ++ ν)[id]? = some gb ∧ cs[j]? = some (.pointer (some ⟨gb, 0, none⟩)) := by
    have hF := SR.of (ev_ok hR f)
    rw [hf] at hF
    obtain ⟨gs, h1, h2, h3⟩ := hF rfl
    refine ⟨_, h3, by simp [h1], fun j id hj => ?_⟩
    obtain ⟨gb, h4, h5⟩ := h2 j id hj
    exact ⟨gb, h5, by simp [h4]⟩
  obtain ⟨cs, hfv, hcsz, hcap⟩ := hfv
  have hrun := run_call (P := P) (w := w) hop hfv hf1 hf2 hf3
  generalize hvids : ((xs.toList.flatMap fun x => idsA (strip (σ.ev x)).2).filter fun i => !lids.contains i) = vids at hcall
  have hvl : ∀ i, i ∈ vids → i ∉ lids := by
    intro i hi
    rw [← hvids] at hi
    have := (List.mem_filter.1 hi).2
    simpa using this
  have hnh' : ∀ i, i ∈ lids → ∃ b, σ.bx[i]? = some b ∧ b ≠ .hid := by
    intro i hi
    have := List.all_eq_true.1 hnh i hi
    cases hb : σ.bx[i]? with
    | none => rw [hb] at this; cases this
    | some b => exact ⟨b, rfl, fun e => by rw [hb, e] at this; cases this⟩
  have hmm := hR.mem
  have hml := hmm.len
  have hll : ∀ i, i ∈ lids → i < σ.bx.length := fun i hi => let ⟨b, hb, _⟩ := hnh' i hi; at_in hb
  have hposg : ∀ id k gb, pos lids id = some k → (μ0 ++ ν)[id]? = some gb → (lids.map fun i => (μ0 ++ ν).getD i 0)[k]? = some gb := fun id k gb hr hg => by rw [List.getElem?_map, pos_at hr, Option.map_some, getD_at hg]
  unfold Oper.wp
  rw [hrun, Oper.upon_enter]
  -- what is never written again while it runs
  let ok2 : Nat → Prop := fun k => ok k ∨ ∃ id b, id ∈ vids ∧ σ.bx[id]? = some b ∧ b ≠ .hid ∧ (μ0 ++ ν)[id]? = some k
  have hok2 : ∀ (i : Nat) b gb, i ∉ vids → σ.bx[i]? = some b → b ≠ .hid → (μ0 ++ ν)[i]? = some gb → ¬ ok2 gb := by
    intro i b gb hi hb hne hg hk
    rcases hk with hk | ⟨id, b', h1, h2, h3, h4⟩
    · exact hmm.live i b gb hb hg hne hk
    · exact hi (hmm.nd i id b b' gb hb h2 hne h3 hg h4 ▸ h1)
  have hsub : ∀ (vbx : List B) (hvb : ∀ (i : Nat) b, vbx[i]? = some b → σ.bx[i]? = some b) (l : L) (u : Value), (∀ id, id ∈ idsL l → pos lids id = none → ∀ es sz t gb, vbx[id]? = some (.arr es sz t) → (μ0 ++ ν)[id]? = some gb → ok2 gb) → RL (μ0 ++ ν) ok w l u → RL (lids.map fun i => (μ0 ++ ν).getD i 0) ok2 w (subL vbx (pos lids) l) u :=
    fun vbx hvb l u hv hl => RL_sub hmm hvb (fun _ h => .inl h) (fun _ _ => rfl) (fun g _ cs t h => ⟨cs, h, rfl⟩) hposg (fun id h1 h2 es sz t gb h3 h4 => ⟨hv id h1 h2 es sz t gb h3 h4, rfl⟩) hl
  have hargs := hcall ok2 (lids.map fun i => (μ0 ++ ν).getD i 0) w (xs.map a.eval ++ cs)
    (fun b hb => by
      obtain ⟨i, hi, rfl⟩ := List.mem_map.1 hb
      obtain ⟨b0, h1, h2⟩ := hnh' i hi
      rw [List.getD_eq_getElem?_getD, h1, Option.getD_some]
      cases b0 <;> simp [mapB] at h2 ⊢)
    (Mem_pick hmm hll hnd (fun l u hl => hsub [] (fun i b h => by simp at h) l u (fun id _ _ es sz t gb h => by simp at h) hl)
      (fun i b gb h1 h2 h3 h4 => hok2 i b gb (fun hv => hvl i hv h1) h2 h3 h4)
      (fun k hk => by
        rcases hk with hk | ⟨id, b', _, _, _, h4⟩
        · exact hmm.small k hk
        · exact hmm.there k (List.mem_of_getElem? h4)) (fun _ h => .inl h))
    (by simp [hcsz])
    (fun j y hy => by
      have hxl : xs.toList.length = xs.size := Array.length_toList
      rw [List.getElem?_append] at hy
      split at hy
      · rename_i hj
        rw [List.length_map] at hj
        rw [List.getElem?_map] at hy
        cases hq : xs.toList[j]? with
        | none => rw [hq] at hy; simp at hy
        | some q =>
          rw [hq] at hy
          obtain rfl : mapA (subL σ.bx (pos lids)) (strip (σ.ev q)).2 = y := by simpa using hy
          refine ⟨a.eval q, ?_, ?_⟩
          · rw [Array.getElem?_toList] at hq
            rw [Array.getElem?_append_left (by simp; omega), Array.getElem?_map, hq]; rfl
          · refine RA_map _ _ (fun l hl u hu => hsub σ.bx (fun _ _ h => h) l u (fun id h1 h2 es sz t gb h3 h4 => .inr ⟨id, _, ?_, h3, by simp, h4⟩) hu) (ev_strip hR q (List.all_eq_true.1 hx q (List.mem_of_getElem? hq)))
            rw [← hvids]
            exact List.mem_filter.2 ⟨List.mem_flatMap.2 ⟨q, List.mem_of_getElem? hq, ids_leaf h1 _ hl⟩, by simpa using pos_none h2⟩
      · rename_i hj
        rw [List.length_map] at hj
        rw [List.length_map, List.getElem?_map] at hy
        cases hq : caps[j - xs.toList.length]? with
        | none => rw [hq] at hy; simp at hy
        | some q =>
          rw [hq] at hy
          obtain rfl : A.one (subL σ.bx (pos lids) (.ptr q 0)) = y := by simpa using hy
          obtain ⟨gb, h1, h2⟩ := hcap _ q hq
          refine ⟨.pointer (some ⟨gb, 0, none⟩), ?_, hsub σ.bx (fun _ _ h => h) (.ptr q 0) _ (fun id h => by simp [idsL] at h) ⟨gb, h1, rfl⟩⟩
          rw [Array.getElem?_append_right (by simp; omega)]
          simpa using h2)
  refine hargs.mono fun e w' hh => ?_
  obtain ⟨cv, r, bx2, ν2, ok3, rfl, hQ, hr, hm2, hν2, hF, h3, h4⟩ := hh
  show K (a.put o.dst cv) w'
  have hsubl : ∀ x, x ∈ lids.map (fun i => (μ0 ++ ν).getD i 0) → x ∈ μ0 ++ ν := by
    intro x hx
    obtain ⟨j, hj, rfl⟩ := List.mem_map.1 hx
    have hjl : j < (μ0 ++ ν).length := by rw [hml]; exact hll j hj
    rw [List.getD_eq_getElem?_getD, List.getElem?_eq_getElem hjl]
    exact List.getElem_mem hjl
  have hB : ∀ D, gr = some D → Fw (D.map fun i => (μ0 ++ ν).getD i 0) w w' := by
    intro D e
    subst e
    refine hF.mono fun g hg => ?_
    obtain ⟨i, hi, rfl⟩ := List.mem_map.1 hg
    exact List.mem_map.2 ⟨i, by simpa using List.all_eq_true.1 hgr i hi, rfl⟩
  -- lent blocks are not among those that are never written again
  have hlent : ∀ k, k ∈ lids.map (fun i => (μ0 ++ ν).getD i 0) → ∀ (i : Nat) b, i ∉ lids → σ.bx[i]? = some b → b ≠ .hid → (μ0 ++ ν)[i]? ≠ some k := by
    intro k hk i b hi hb hne hg
    obtain ⟨j, hj, hjk⟩ := List.mem_map.1 hk
    obtain ⟨b', hb', hne'⟩ := hnh' j hj
    have hjl : j < (μ0 ++ ν).length := by rw [hml]; exact at_in hb'
    have hjg : (μ0 ++ ν)[j]? = some k := by
      rw [List.getD_eq_getElem?_getD, List.getElem?_eq_getElem hjl] at hjk
      rw [List.getElem?_eq_getElem hjl]
      simpa using hjk
    exact hi (hmm.nd i j b b' k hb hb' hne hne' hg hjg ▸ hj)
  have hokF : ∀ k, ok k → w'.heap[k]? = w.heap[k]? := fun k hk => hF.block k (hmm.small k hk) (fun hx => by
    obtain ⟨j, hj, hjk⟩ := List.mem_map.1 hx
    obtain ⟨b', hb', hne'⟩ := hnh' j hj
    have hjl : j < (μ0 ++ ν).length := by rw [hml]; exact at_in hb'
    have hjg : (μ0 ++ ν)[j]? = some k := by
      rw [List.getD_eq_getElem?_getD, List.getElem?_eq_getElem hjl] at hjk
      rw [List.getElem?_eq_getElem hjl]
      simpa using hjk
    exact hmm.live j b' k hb' hjg hne' hk)
  have hshape : ∀ gb, gb ∈ μ0 ++ ν → ∀ cs t, w.heap[gb]? = some (.cells cs t (0, 0)) → ∃ cs', w'.heap[gb]? = some (.cells cs' t (0, 0)) ∧ cs'.size = cs.size := fun gb hg cs t hc => hF.kept gb (hmm.there gb hg) cs t hc
  -- the callee's numbers
  have hupg : ∀ id k gb, up lids σ.bx.length id = some k → (lids.map (fun i => (μ0 ++ ν).getD i 0) ++ ν2)[id]? = some gb → ((μ0 ++ ν) ++ ν2)[k]? = some gb := by
    intro id k gb hu hg
    unfold up at hu
    simp only [Option.some.injEq] at hu
    subst hu
    split
    · rename_i hlt
      rw [List.getElem?_append_left (by rw [List.length_map]; exact hlt), List.getElem?_map, List.getElem?_eq_getElem hlt, Option.map_some] at hg
      rw [List.getD_eq_getElem?_getD (l := lids), List.getElem?_eq_getElem hlt, Option.getD_some]
      have hjl : lids[id] < (μ0 ++ ν).length := by rw [hml]; exact hll _ (List.getElem_mem hlt)
      rw [List.getElem?_append_left hjl, List.getElem?_eq_getElem hjl]
      rw [List.getD_eq_getElem?_getD, List.getElem?_eq_getElem hjl] at hg
      simpa using hg
    · rename_i hge
      rw [List.getElem?_append_right (by rw [List.length_map]; omega), List.length_map] at hg
      rw [List.getElem?_append_right (by omega), ← hg]
      congr 1
      omega
  have hup3 : ∀ l u, RL (lids.map (fun i => (μ0 ++ ν).getD i 0) ++ ν2) ok3 w' l u → RL ((μ0 ++ ν) ++ ν2) ok3 w' (subL [] (up lids σ.bx.length) l) u :=
    fun l u hl => RL_sub hm2 (fun i b h => by simp at h) (fun _ h => h) (fun _ _ => rfl) (fun g _ cs t h => ⟨cs, h, rfl⟩) hupg (fun id _ _ es sz t gb h => by simp at h) hl
  have hout : ∀ ok4 : Nat → Prop, (∀ k, ok k → ok4 k) → (∀ k, ok4 k → ok3 k) → Out ok0 μ0 w0 (ν ++ ν2) ok4 w' := by
    intro ok4 h5 h6
    have hO2 := hO.step (hF.mono hsubl)
    have hall : ∀ x, x ∈ μ0 ++ ν → w0.heap.size ≤ x ∨ x ∈ μ0 := fun x hx => by
      rcases List.mem_append.1 hx with hx | hx
      · exact .inr hx
      · exact hO.new x hx
    refine ⟨hO2.fw, fun k hk => h5 k (hO.ok1 k hk), fun k hk => ?_, fun x hx => ?_⟩
    · rcases h4 k (h6 k hk) with (hk | ⟨id, b', _, _, _, hk⟩) | hk | hk
      · exact hO.ok2 k hk
      · exact .inr (hall k (List.mem_of_getElem? hk))
      · exact .inr (.inl (Nat.le_trans hO.fw.size hk))
      · exact .inr (hall k (hsubl k hk))
    · rcases List.mem_append.1 hx with hx | hx
      · exact hO.new x hx
      · rcases hν2 x hx with hx | hx
        · exact .inl (Nat.le_trans hO.fw.size hx)
        · exact hall x (hsubl x hx)
  -- nothing is frozen behind the call
  have plain : ∀ ok4 : Nat → Prop, (∀ k, ok k → ok4 k) → (∀ k, ok4 k → ok3 k) → (∀ (i : Nat) b gb, i ∉ lids → σ.bx[i]? = some b → b ≠ .hid → (μ0 ++ ν)[i]? = some gb → ¬ ok4 gb) →
      (∀ (i : Nat) b l u, bx2[i]? = some b → (match b with | .var ls _ => l ∈ ls | .arr es _ _ => ∃ e, e ∈ es ∧ l ∈ e | _ => False) → RL (lids.map (fun i => (μ0 ++ ν).getD i 0) ++ ν2) ok3 w' l u → RL ((μ0 ++ ν) ++ ν2) ok4 w' (subL [] (up lids σ.bx.length) l) u) →
      (∀ l, leafIn l r → ∀ u, RL (lids.map (fun i => (μ0 ++ ν).getD i 0) ++ ν2) ok3 w' l u → RL ((μ0 ++ ν) ++ ν2) ok4 w' (subL [] (up lids σ.bx.length) l) u) →
      RelA ok0 μ0 w0 ν (σ.after lids σ.bx.length bx2) a w' (mapA (subL [] (up lids σ.bx.length)) r) cv := by
    intro ok4 h5 h6 h7 h8 h9
    have := Rl.back (σb := σ) (fz := fun l => l) hR hnd hnh' hm2 hν2 hF h5 h6 rfl rfl (fun t => (mapA_id (fun l => rfl) _).symm)
      (fun l u hl => RL_weak ν2 (RL.congr (fun i g hg => hg) h5 hokF hshape l u hl))
      (fun i b _ hb => .inr ⟨b, hb, (mapB_id (fun l => rfl) b).symm⟩) h7 h8
    rw [List.append_assoc] at this
    exact ⟨ν2, ok4, hm, this, hout ok4 h5 h6, by rw [← List.append_assoc]; exact RA_map r cv h9 hr⟩
  have hv3 : ∀ (i : Nat) b gb, i ∉ lids → i ∉ vids → σ.bx[i]? = some b → b ≠ .hid → (μ0 ++ ν)[i]? = some gb → ¬ ok3 gb := by
    intro i b gb hi hiv hb hne hg hk
    rcases h4 gb hk with hk | hk | hk
    · exact hok2 i b gb hiv hb hne hg hk
    · exact Nat.lt_irrefl _ (Nat.lt_of_lt_of_le (hmm.there gb (List.mem_of_getElem? hg)) hk)
    · exact hlent gb hk i b hi hb hne hg
  unfold callK at hQ
  split at hQ
  · rename_i hv
    refine hK _ _ _ _ (plain ok3 (fun k hk => h3 k (.inl hk)) (fun _ h => h) (fun i b gb hi hb hne hg => hv3 i b gb hi (by rw [hv]; simp) hb hne hg) (fun i b l u _ _ hl => hup3 l u hl) (fun l _ u hl => hup3 l u hl)) hB hQ
  · rcases hQ with ⟨hc1, hc2, hQ⟩ | hQ
    · have hcb : ∀ (bs : List B), cleanBs bs → ∀ (i : Nat) b, bs[i]? = some b → cleanB b := by
        intro bs
        induction bs with
        | nil => intro _ i b h; simp at h
        | cons b0 bs ih =>
          intro hcl i b h
          cases i with
          | zero => obtain rfl : b0 = b := by simpa using h
                    exact hcl.1
          | succ i => exact ih hcl.2 i b h
      refine hK _ _ _ _ (plain (fun k => ok3 k ∧ ¬ ∃ id b, id ∈ vids ∧ σ.bx[id]? = some b ∧ b ≠ .hid ∧ (μ0 ++ ν)[id]? = some k) (fun k hk => ⟨h3 k (.inl hk), fun ⟨id, b, _, h1, h2, h5⟩ => hmm.live id b k h1 h5 h2 hk⟩) (fun _ h => h.1) (fun i b gb hi hb hne hg hk => ?_) (fun i b l u hb hl hr => ?_) (fun l hl u hr => clean_ok (clean_sub (hc1 l hl)) (hup3 l u hr))) hB hQ
      · by_cases hiv : i ∈ vids
        · exact hk.2 ⟨i, b, hiv, hb, hne, hg⟩
        · exact hv3 i b gb hi hiv hb hne hg hk.1
      · have hcl := hcb bx2 hc2 i b hb
        refine clean_ok (clean_sub ?_) (hup3 l u hr)
        cases b with
        | var ls t => exact List.all_eq_true.1 hcl l hl
        | arr es sz t => obtain ⟨e, h5, h6⟩ := hl; exact List.all_eq_true.1 (hcl e h5) l h6
        | _ => exact hl.elim
    · -- some rows are never written again
      refine hK _ _ _ _ ?_ hB hQ
      have hfz : ∀ l u, RL (μ0 ++ ν) ok w l u → RL ((μ0 ++ ν) ++ ν2) ok3 w' (subL σ.bx (outside vids) l) u := by
        intro l u hl
        refine RL_weak ν2 (RL_sub hmm (fun _ _ h => h) (fun k hk => h3 k (.inl hk)) hokF hshape (fun id k gb hr hg => ?_) (fun id _ hr es sz t gb hb hg => ?_) hl)
        · unfold outside at hr
          split at hr
          · cases hr
          · obtain rfl : id = k := by simpa using hr
            exact hg
        · unfold outside at hr
          split at hr
          · rename_i hid
            refine ⟨h3 gb (.inr ⟨id, _, hid, hb, by simp, hg⟩), hF.block gb (hmm.there gb (List.mem_of_getElem? hg)) (fun hx => hlent gb hx id _ (hvl id hid) hb (by simp) hg)⟩
          · cases hr
      have := Rl.back (σb := σ.freeze vids) (fz := subL σ.bx (outside vids)) hR hnd hnh' hm2 hν2 hF (fun k hk => h3 k (.inl hk)) (fun _ h => h) rfl (by simp [St.freeze]) (fun t => lk_map (mapA (subL σ.bx (outside vids))) rfl t σ.tm) hfz
        (fun i b hi hb => by
          obtain ⟨b0, h5, h6⟩ := freeze_at hb
          split at h6
          · exact .inl h6
          · exact .inr ⟨b0, h5, h6⟩)
        (fun i b gb hi hb hne hg => by
          obtain ⟨b0, h5, h6⟩ := freeze_at hb
          split at h6
          · exact absurd h6 hne
          · rename_i hiv
            rw [h6] at hne
            exact hv3 i b0 gb hi hiv h5 (mapB_hid hne) hg)
        (fun i b l u _ _ hl => hup3 l u hl)
      rw [List.append_assoc] at this
      exact ⟨ν2, ok3, hm, this, hout ok3 (fun k hk => h3 k (.inl hk)) (fun _ h => h), by rw [← List.append_assoc]; exact RA_map r cv (fun l _ u hl => hup3 l u hl) hr⟩
end
--ALSO Derived.Laws.BytesString Derived.Laws.RangeString
section
variable {P : Program} {T : Ty} {ok0 : Nat → Prop} {μ0 ν : List Nat} {w0 : World}
theorem byte_rows : ∀ (ns : List (List L)), allByte ns → ∃ bs : List Int, ns = bs.map (fun b => [L.c (.v (.int .u8 b))])
  | [], _ => ⟨[], rfl⟩
  | e :: ns, h => by
    obtain ⟨b, rfl⟩ := h e List.mem_cons_self
    obtain ⟨bs, rfl⟩ := byte_rows ns (fun x hx => h x (List.mem_cons_of_mem _ hx))
    exact ⟨b :: bs, rfl⟩
theorem push_list (s : ByteArray) : ∀ (bs : List Int) (s : ByteArray), bs.foldl (fun r n => r.push (UInt8.ofNat n.toNat)) s = ⟨s.data ++ (bs.map fun b => UInt8.ofNat b.toNat).toArray⟩
  | [], s => by cases s; simp
  | b :: bs, s => by
    rw [List.foldl_cons, push_list s bs]
    cases s
    simp [ByteArray.push]
theorem conv_ok (hT : ∀ t i, T t = some i → TyOK P t i) {σ : St} {a : Act} {w : World} {s d : TypeId} {x : Operand} {k : A → St → Prop} (h : RelX ok0 μ0 w0 ν σ a w) (he : eConv T σ s d (strip (σ.ev x)) k) :
    ∃ r σ' v w', (convert s d (a.eval x)).run P w = .ok v w' ∧ RelA ok0 μ0 w0 ν σ' a w' r v ∧ k r σ' ∧ Below w.heap.size w w' := by
  obtain ⟨ok, hm, hR, hO⟩ := h
  have hx0 := SR.of (ev_ok hR x)
  unfold eConv at he
  split at he
  · rename_i e _ _ _ _ _ _ hTs hTd
    split at he
    · rename_i hTe
      split at he
      · rename_i g xl heq
        rw [heq] at hx0
        split at he
        · rename_i sz ns hrow
          obtain ⟨h1, rfl, h3, h4, h5⟩ := he
          have hx0 := hx0 h1
          obtain ⟨bs, rfl⟩ := byte_rows ns h4
          have hcell : allCell (bs.map fun b => [L.c (.v (.int .u8 b))]) := fun e he => by
            obtain ⟨b, _, rfl⟩ := List.mem_map.1 he
            rfl
          obtain ⟨news, hS, hn⟩ := src_ok hT hR.mem hx0 hrow (by omega) h3 hcell
          have hnl := hS.newsLen
          have hnews : news = bs.map (Value.int .u8) := by
            apply List.ext_getElem?
            intro i
            rw [List.getElem?_map]
            cases hb : bs[i]? with
            | none =>
              rw [List.getElem?_eq_none_iff] at hb
              rw [List.getElem?_eq_none (by rw [hnl, List.length_map]; omega)]
              rfl
            | some b =>
              obtain ⟨_, h7⟩ := hn i [L.c (.v (.int .u8 b))] (by rw [List.getElem?_map, hb]; rfl)
              obtain ⟨v, h8, h9⟩ := h7 0 _ rfl
              rw [Nat.mul_one, Nat.add_zero] at h8
              rw [h8]
              exact congrArg some h9
          have hsl : ∃ ad n cap, a.eval x = .slice ad n cap := by
            cases xl with
            | c y =>
              cases y with
              | v y => unfold srcOK at h3; rw [hTs] at h3; cases h3
              | sl n sz f => obtain ⟨ad, cap, hu, _⟩ := hx0; exact ⟨ad, n, cap, hu⟩
              | any => simp [rowOf] at hrow
              | ifc => simp [rowOf] at hrow
            | own id sz o n => obtain ⟨gb, cap, cs, t, _, hu, _⟩ := hx0; exact ⟨_, n, cap, hu⟩
            | _ => simp [rowOf] at hrow
          obtain ⟨ad, n, cap, hu⟩ := hsl
          have hlen := hS.len w
          rw [hu] at hlen
          simp only [Builtin.lenOf, Sem.run_pure, Result.ok.injEq, and_true, List.length_map] at hlen
          subst hlen
          have htext : textOf (bs.map fun b => [L.c (.v (.int .u8 b))]) = bs.foldl (fun r n => r.push (UInt8.ofNat n.toNat)) ByteArray.empty := by
            rw [push_list ByteArray.empty]
            unfold textOf
            rw [List.map_map]
            congr 1
            show _ = #[] ++ _
            rw [Array.empty_append]
            rfl
          have hconv : (convert s d (a.eval x)).run P w = (Conv.bytesToString (a.eval x)).run P w := by
            rw [hu]
            simp only [convert, Sem.run_bind, run_under (slice_under hT hTs), run_under (prim_under hT hTd), run_under (prim_under hT hTe), Result.andThen_ok]
          have hrun : (convert s d (a.eval x)).run P w = .ok (.string (textOf (bs.map fun b => [L.c (.v (.int .u8 b))]))) w := by
            rw [hconv, hu, htext]
            cases ad with
            | none =>
              have hc := hS.cells
              rw [hu] at hc
              have hb0 : bs = [] := by
                rw [hnews] at hc
                cases bs with
                | nil => rfl
                | cons b bs => simp [Builtin.firstCells] at hc
              subst hb0
              rfl
            | some ad =>
              refine run_bytesToString w ad bs.length cap bs ?_
              have hc := hS.cells
              rw [hu, hnews] at hc
              simpa [Builtin.firstCells] using hc
          exact ⟨.str (textOf (bs.map fun b => [L.c (.v (.int .u8 b))])), σ, _, w, hrun, ⟨[], ok, hm, by rw [List.append_nil]; exact hR, by rw [List.append_nil]; exact hO, rfl⟩, h5, Below.refl _ _⟩
        · exact he.elim
      · exact he.elim
    · exact he.elim
  · exact he.elim
theorem range_ok (hT : ∀ t i, T t = some i → TyOK P t i) {σ : St} {a : Act} {w : World} {t : TypeId} {x : Operand} {k : A → St → Prop} (h : RelX ok0 μ0 w0 ν σ a w) (he : eRange T σ t (strip (σ.ev x)) k) :
    ∃ r σ' v w', (Instr.range t (a.eval x)).run P w = .ok v w' ∧ RelA ok0 μ0 w0 ν σ' a w' r v ∧ k r σ' ∧ Below w.heap.size w w' := by
  obtain ⟨ok, hm, hR, hO⟩ := _root_.id h
  have hx0 := SR.of (ev_ok hR x)
  unfold eRange at he
  split at he
  · rename_i g s hTs heq
    rw [heq] at hx0
    have hu : a.eval x = .string s := hx0 he.1
    have hrun : (Instr.range t (a.eval x)).run P w = .ok (.pointer (some ⟨w.heap.size, 0, none⟩)) (w.iter s 0) := by rw [hu]; exact run_range_string w t s (prim_under hT hTs)
    exact ⟨_, _, _, _, hrun, h.alloc (.stringIter s 0) (.iter s 0) (.one (.ptr σ.bx.length 0)) _ (fun μ ok hR hRL => ⟨World.iter_heap w s 0, fun hid => ⟨_, hid, rfl⟩⟩), he.2, below_alloc _ _⟩
  · exact he.elim
theorem eff_ok (hT : ∀ t i, T t = some i → TyOK P t i) {gr : Option (List Nat)} {σ : St} {a : Act} {w : World} {o : Oper} {k : A → St → Prop} {K : Act → World → Prop} {Q : Exit → Act → World → Prop} (h : RelX ok0 μ0 w0 ν σ a w) (he : eff P T gr o σ k)
    (hK : ∀ r σ' v w', RelA ok0 μ0 w0 ν σ' a w' r v → (∀ D, gr = some D → Fw (D.map fun i => (μ0 ++ ν).getD i 0) w w') → k r σ' → K (a.put o.dst v) w') : o.wp P a w K Q := by
  have hval : ∀ {s : Sem Value} {r : A} {σ' : St} {v : Value} {w' : World}, execOp a.eval o = (do pure (.value (← s)) : Sem Next) → s.run P w = .ok v w' → RelA ok0 μ0 w0 ν σ' a w' r v → (∀ D, gr = some D → Fw (D.map fun i => (μ0 ++ ν).getD i 0) w w') → k r σ' → o.wp P a w K Q := by
    intro s r σ' v w' h1 h2 h3 h5 h4
    exact wp_value (v := v) (w' := w') (by rw [h1]; simp [h2]) (hK _ _ _ _ h3 h5 h4)
  unfold eff at he
  split at he
  · rename_i t hop
    obtain ⟨h1, h2⟩ := he
    obtain ⟨v, w', h3, h4, h5⟩ := alloc_ok hT h1 h
    exact hval (s := Instr.alloc t true (.tuple #[])) (by unfold execOp; simp only [hop]) h3 h4 (fun _ _ => Fw.of _ h5) h2
  · rename_i t x hop
    obtain ⟨h1, h2, h3⟩ := he
    obtain ⟨v, w', h4, h5, h6⟩ := box_ok (P := P) (t := t) h1 h2 h
    exact hval (s := Instr.box t (a.eval x)) (by unfold execOp; simp only [hop]) h4 h5 (fun _ _ => Fw.of _ h6) h3
  · rename_i t x y hop
    obtain ⟨hg, he⟩ := he
    obtain ⟨σ', w', h1, h2, h3⟩ := store_ok hT h he
    refine wp_skip_ (w' := w') ?_ (hK _ _ _ _ h2 (fun D e => by rw [hg] at e; cases e) h3)
    unfold execOp
    simp [hop, h1]
  · rename_i f fs cs hop
    obtain ⟨rfl, he⟩ := he
    split at he
    · rename_i ids hm
      obtain ⟨ok, h0, hR, hO⟩ := h
      obtain ⟨gs, h1, h2, h3⟩ := fn_ok hR _ _ hm
      refine hval (s := Instr.makeFunc (.func f) #[] (cs.map a.eval)) (v := .func (.func f) #[] (cs.map a.eval)) (w' := w) (by unfold execOp; simp [hop]) (by simp [Instr.makeFunc]) ?_ (fun _ _ => Fw.refl _ _) he
      refine ⟨[], ok, h0, by rw [List.append_nil]; exact hR, by rw [List.append_nil]; exact hO, ?_⟩
      rw [List.append_nil]
      refine ⟨gs, h1, h2, ?_⟩
      have e : (cs.toList.map a.eval).toArray = cs.map a.eval := by rw [← Array.toList_inj]; simp
      rw [← h3, e]
    · exact he.elim
  · rename_i t x y hop
    obtain ⟨r, σ', v, w', h1, h2, h3, h4⟩ := make_ok hT h he
    exact hval (s := Instr.makeSlice t (a.eval x) (a.eval y)) (by unfold execOp; simp only [hop]) h1 h2 (fun _ _ => Fw.of _ h4) h3
  · rename_i t n ps hop
    obtain ⟨r, σ', v, w', h1, h2, h3, h4⟩ := lit_ok hT h he
    exact hval (by unfold execOp; rw [hop]) h1 h2 (fun _ _ => Fw.of _ h4) h3
  · rename_i s d x hop
    obtain ⟨r, σ', v, w', h1, h2, h3, h4⟩ := conv_ok hT h he
    exact hval (s := convert s d (a.eval x)) (by unfold execOp; simp only [hop]) h1 h2 (fun _ _ => Fw.of _ h4) h3
  · rename_i t x hop
    obtain ⟨r, σ', v, w', h1, h2, h3, h4⟩ := range_ok hT h he
    exact hval (s := Instr.range t (a.eval x)) (by unfold execOp; simp only [hop]) h1 h2 (fun _ _ => Fw.of _ h4) h3
  · rename_i x hop
    obtain ⟨hg, he⟩ := he
    obtain ⟨r, σ', v, w', h1, h2, h3⟩ := next_ok (ty := o.type) h he
    exact hval (s := Instr.next (a.eval x) true o.type) (by unfold execOp; simp only [hop]) h1 h2 (fun D e => by rw [hg] at e; cases e) h3
  · rename_i xs ts hop
    obtain ⟨hg, he⟩ := he
    split at he
    · rename_i s x t t' hxs hts
      obtain ⟨r, σ', v, w', h1, h2, h3⟩ := append_ok (ty := o.type) hT h he
      have exs : xs = #[s, x] := by rw [← Array.toList_inj]; exact hxs
      have ets : ts = #[t, t'] := by rw [← Array.toList_inj]; exact hts
      subst exs
      subst ets
      refine hval (s := Builtin.append_ #[t, t'] o.type #[a.eval s, a.eval x]) ?_ h1 h2 (fun D e => by rw [hg] at e; cases e) h3
      unfold execOp
      simp [hop, resolve, invoke, builtin]
    · exact he.elim
  · rename_i f xs ts hop
    split at he
    · rename_i g caps hg
      obtain ⟨h1, lids, h2, h3, h4, h5⟩ := he
      exact call_ok hop h hg h1 h2 h3 h4 h5 hK
    · exact he.elim
  · exact he.elim
end
section
variable {P : Program} {T : Ty} {ok0 : Nat → Prop} {μ0 : List Nat} {w0 : World}
theorem RA_undef {R : L → Value → Prop} : ∀ (a : A) (u : Value), RA R a u → (strip a).1 = false → u = undef
  | .one _, _, _, h => by simp [strip] at h
  | .agg _, _, _, h => by simp [strip] at h
  | .tup _, _, _, h => by simp [strip] at h
  | .opt g a, u, h, hs => by
    cases g with
    | false => exact h.2 rfl
    | true => exact RA_undef a u (h.1 rfl) (by simpa [strip] using hs)
theorem gval_ok {μ : List Nat} {ok : Nat → Prop} {σ : St} {a : Act} {w : World} {ops : Array Oper} {j : Nat} {b g : Bool} (h : Rl μ ok σ a w) (hg : gval σ ops j b = some g) : (yielded ops a.tmps j == some b) = g := by
  unfold gval at hg
  unfold yielded
  cases hd : (ops[j]?).bind (·.dst) with
  | none => rw [hd] at hg; cases hg
  | some d =>
    rw [hd] at hg
    simp only [Option.bind_some] at hg ⊢
    have hd' := h.tm d
    rw [Array.getD_eq_getD_getElem?] at hd'
    split at hg
    · rename_i gg t heq
      obtain rfl : (gg && (t == b)) = g := by simpa using hg
      cases gg with
      | true =>
        have := RA_strip _ _ hd' (by rw [heq])
        rw [heq] at this
        have e : a.tmps[d]?.getD undef = .bool t := this
        cases hv : a.tmps[d]? with
        | none => rw [hv] at e; cases e
        | some v =>
          rw [hv] at e
          obtain rfl : v = .bool t := e
          cases t <;> cases b <;> rfl
      | false =>
        have e := RA_undef _ _ hd' (by rw [heq])
        cases hv : a.tmps[d]? with
        | none => rfl
        | some v =>
          rw [hv] at e
          obtain rfl : v = undef := e
          rfl
    · rename_i x hx heq
      obtain rfl : false = g := by simpa using hg
      have e := RA_undef _ _ hd' (by rw [heq])
      cases hv : a.tmps[d]? with
      | none => rfl
      | some v =>
        rw [hv] at e
        obtain rfl : v = undef := e
        rfl
    · rename_i x heq
      obtain rfl : false = g := by simpa using hg
      have := RA_strip _ _ hd' (by rw [heq])
      rw [heq] at this
      have e : a.tmps[d]?.getD undef = .tuple _ := this
      cases hv : a.tmps[d]? with
      | none => rfl
      | some v =>
        rw [hv] at e
        obtain rfl : v = .tuple _ := e
        rfl
    · cases hg
theorem areg_ok (hT : ∀ t i, T t = some i → TyOK P t i) {ops : Array Oper} {o : Oper} {μ : List Nat} {ok : Nat → Prop} {σ : St} {a : Act} {w : World} {p : Prop} {x : A} (hR : Rl μ ok σ a w) (h : areg T ops o σ = some (p, x)) (hp : p) :
    ∃ v, RA (RL μ ok w) x v ∧ ((Region.wanted o (yielded ops a.tmps) = true ∧ ∀ w', (memFree o.op = true ∨ Ag μ ok σ.bx w w') → (execOp a.eval o).run P w' = .ok (.value v) w') ∨ (Region.wanted o (yielded ops a.tmps) = false ∧ v = undef)) := by
  unfold areg at h
  split at h
  · rename_i hg
    obtain ⟨v, h1, h2⟩ := pure_ok hT h hR hp
    exact ⟨v, h2, .inl ⟨by unfold Region.wanted; rw [hg], h1⟩⟩
  · rename_i j b hg
    split at h
    · rename_i g hgv
      have hw : Region.wanted o (yielded ops a.tmps) = g := by
        unfold Region.wanted
        rw [hg]
        exact gval_ok hR hgv
      split at h
      · rename_i p' r hpu
        simp only [Option.some.injEq, Prod.mk.injEq] at h
        obtain ⟨rfl, rfl⟩ := h
        cases g with
        | true =>
          obtain ⟨v, h1, h2⟩ := pure_ok hT hpu hR (hp rfl)
          exact ⟨v, ⟨(fun _ => h2), (fun e => by cases e)⟩, .inl ⟨hw, h1⟩⟩
        | false => exact ⟨undef, ⟨(fun e => by cases e), (fun _ => rfl)⟩, .inr ⟨hw, rfl⟩⟩
      · cases h
    · cases h
theorem RelX.putX {ν : List Nat} {σ : St} {a : Act} {w : World} (h : RelX ok0 μ0 w0 ν σ a w) {x : A} {v : Value} (hv : ∀ ok, Rl (μ0 ++ ν) ok σ a w → RA (RL (μ0 ++ ν) ok w) x v) (d : Option Nat) : RelX ok0 μ0 w0 ν (σ.putO d x) (a.put d v) w := by
  obtain ⟨ok, h0, hR, hO⟩ := h
  exact ⟨ok, by rw [putO_m]; exact h0, hR.put d (hv ok hR), hO⟩
theorem aoper_ok (hT : ∀ t i, T t = some i → TyOK P t i) {gr : Option (List Nat)} {ops : Array Oper} {o : Oper} {Q : Exit → Act → World → Prop} {k : St → Prop} {K : Act → World → Prop} {ν : List Nat} {σ : St} {a : Act} {w : World} (h : RelX ok0 μ0 w0 ν σ a w) (he : aoper P T gr ops o σ k)
    (hk : ∀ ν2 σ' v w', RelX ok0 μ0 w0 (ν ++ ν2) σ' (a.put o.dst v) w' → (∀ D, gr = some D → Fw (D.map fun i => (μ0 ++ ν).getD i 0) w w') → k σ' → K (a.put o.dst v) w') :
    if Region.wanted o (yielded ops a.tmps) = true then o.wp P a w K Q else K (a.put o.dst undef) w := by
  have hpure : ∀ p x, areg T ops o σ = some (p, x) → p → k (σ.putO o.dst x) → if Region.wanted o (yielded ops a.tmps) = true then o.wp P a w K Q else K (a.put o.dst undef) w := by
    intro p x h1 h2 h3
    obtain ⟨ok, h0, hR, hO⟩ := id h
    obtain ⟨v, h4, ⟨h5, h6⟩ | ⟨h5, h6⟩⟩ := areg_ok hT hR h1 h2
    · rw [h5, if_pos rfl]
      exact wp_value (h6 w (.inr (Ag.refl _ _ _ _))) (hk [] _ _ _ (by rw [List.append_nil]; exact ⟨ok, by rw [putO_m]; exact h0, hR.put o.dst h4, hO⟩) (fun _ _ => Fw.refl _ _) h3)
    · subst h6
      rw [h5, if_neg (by simp)]
      exact hk [] _ _ _ (by rw [List.append_nil]; exact ⟨ok, by rw [putO_m]; exact h0, hR.put o.dst h4, hO⟩) (fun _ _ => Fw.refl _ _) h3
  unfold aoper at he
  split at he
  · rename_i hg
    split at he
    · rename_i p x hp
      exact hpure p x (by unfold areg; rw [hg]; exact hp) he.1 he.2
    · rw [if_pos (by unfold Region.wanted; rw [hg])]
      exact eff_ok hT h he fun x σ' v w' h1 h2 h3 => let ⟨ν2, h4⟩ := h1.put o.dst; hk ν2 _ _ _ h4 h2 h3
  · rename_i j b hg
    split at he
    · rename_i g hgv
      split at he
      · rename_i p x hp
        exact hpure (g = true → p) (.opt g x) (by unfold areg; rw [hg]; simp only [hgv, hp]) he.1 he.2
      · have hw : Region.wanted o (yielded ops a.tmps) = g := by
          unfold Region.wanted
          rw [hg]
          obtain ⟨ok, h0, hR, _⟩ := h
          exact gval_ok hR hgv
        rw [hw]
        cases g with
        | true =>
          rw [if_pos rfl]
          exact eff_ok hT h (he.1 rfl) fun x σ' v w' h1 h2 h3 => let ⟨ν2, h4⟩ := h1.put o.dst; hk ν2 _ _ _ h4 h2 h3
        | false =>
          rw [if_neg (by simp)]
          exact hk [] _ _ _ (by rw [List.append_nil]; exact h.putX (x := .v undef) (fun _ _ => rfl) o.dst) (fun _ _ => Fw.refl _ _) (he.2 rfl)
    · exact he.elim
theorem aops_ok (hT : ∀ t i, T t = some i → TyOK P t i) {ops : Array Oper} {Q : Exit → Act → World → Prop} {k : St → Prop} (hQ : ∀ σ a w, Rel ok0 μ0 w0 σ a w → k σ → Q .normal a w) :
    ∀ (l : List Oper) (ν : List Nat) (σ : St) (a : Act) (w : World), RelX ok0 μ0 w0 ν σ a w → aops P T ops l σ k → wpList P ops Q l a w
  | [], ν, σ, a, w, h, he => wpList_nil (hQ σ a w ⟨ν, h⟩ he)
  | o :: r, ν, σ, a, w, h, he => wpList_step fun K hK => aoper_ok hT h (gr := none) (k := fun σ' => aops P T ops r σ' k) he fun ν2 σ' v w' h1 _ h2 => hK _ _ (aops_ok hT hQ r (ν ++ ν2) σ' _ w' h1 h2)
theorem RelX.drew {ν : List Nat} {σ : St} {a : Act} {w : World} (h : RelX ok0 μ0 w0 ν σ a w) : RelX ok0 μ0 w0 ν σ a w.drew := by
  obtain ⟨ok, h0, hR, hO⟩ := h
  have hd : Below w.heap.size w w.drew := (Below.refl _ w).drew
  exact ⟨ok, h0, ⟨Mem_below hR.mem hd, hR.nt, fun t => RA_mono (fun l u hl => RL_below hR.mem hd hl) _ _ (hR.tm t), hR.df⟩, hO.below hd⟩
theorem hideB_at {D : List Nat} : ∀ {bx : List B} {n i : Nat} {b : B}, (hideB D n bx)[i]? = some b → b ≠ .hid → bx[i]? = some b ∧ (n + i) ∉ D
  | [], n, i, b, h, _ => by simp [hideB] at h
  | b0 :: r, n, 0, b, h, hne => by
    simp only [hideB, List.getElem?_cons_zero, Option.some.injEq] at h
    split at h
    · exact absurd h.symm hne
    · rename_i hc
      exact ⟨by simpa using h, by simpa using hc⟩
  | b0 :: r, n, i + 1, b, h, hne => by
    simp only [hideB, List.getElem?_cons_succ] at h
    obtain ⟨h1, h2⟩ := hideB_at h hne
    exact ⟨by simpa using h1, by rw [show n + (i + 1) = n + 1 + i by omega]; exact h2⟩
theorem hideB_len {D : List Nat} : ∀ {bx : List B} {n : Nat}, (hideB D n bx).length = bx.length
  | [], n => rfl
  | b :: r, n => by simp [hideB, hideB_len (bx := r)]
theorem Rl.hide {μ : List Nat} {ok : Nat → Prop} {σ : St} {a : Act} {w : World} (h : Rl μ ok σ a w) (D : List Nat) : Rl μ ok (σ.hide D) a w := by
  have at_ : ∀ (i : Nat) b, (σ.hide D).bx[i]? = some b → b ≠ .hid → σ.bx[i]? = some b := fun i b h hne => (hideB_at h hne).1
  refine ⟨⟨by rw [h.mem.len]; exact hideB_len.symm, fun i j b b' g h1 h2 hn1 hn2 h3 h4 => h.mem.nd i j b b' g (at_ i b h1 hn1) (at_ j b' h2 hn2) hn1 hn2 h3 h4, fun i b g h1 h2 hn => h.mem.live i b g (at_ i b h1 hn) h2 hn, h.mem.there, h.mem.small, fun i b g h1 h2 => ?_, h.mem.gl⟩, h.nt, h.tm, h.df⟩
  by_cases hn : b = .hid
  · subst hn; trivial
  · exact h.mem.box i b g (at_ i b h1 hn) h2
/-- A world in which the blocks of D alone were turned is alike in what is told without them. -/
theorem Ag.fw {μ D : List Nat} {ok : Nat → Prop} {σ : St} {a : Act} {w w' : World} (h : Rl μ ok σ a w) (hD : ∀ i, i ∈ D → ∃ b, σ.bx[i]? = some b ∧ b ≠ .hid) (hF : Fw (D.map fun i => μ.getD i 0) w w') : Ag μ ok (σ.hide D).bx w w' := by
  have inD : ∀ k, k ∈ D.map (fun i => μ.getD i 0) → ∃ i b, i ∈ D ∧ σ.bx[i]? = some b ∧ b ≠ .hid ∧ μ[i]? = some k := by
    intro k hk
    obtain ⟨i, hi, hik⟩ := List.mem_map.1 hk
    obtain ⟨b, h1, h2⟩ := hD i hi
    have hil : i < μ.length := by rw [h.mem.len]; exact at_in h1
    refine ⟨i, b, hi, h1, h2, ?_⟩
    rw [List.getD_eq_getElem?_getD, List.getElem?_eq_getElem hil] at hik
    rw [List.getElem?_eq_getElem hil]
    simpa using hik
  intro k hk
  rcases hk with hk | ⟨i, b, h1, h2, h3⟩
  · refine hF.block k (h.mem.small k hk) (fun hx => ?_)
    obtain ⟨j, b, _, h5, h6, h7⟩ := inD k hx
    exact h.mem.live j b k h5 h7 h6 hk
  · obtain ⟨h4, h5⟩ := hideB_at h1 h2
    rw [Nat.zero_add] at h5
    refine hF.block k (h.mem.there k (List.mem_of_getElem? h3)) (fun hx => ?_)
    obtain ⟨j, b', hj, h6, h7, h8⟩ := inD k hx
    exact h5 (h.mem.nd i j b b' k h4 h6 h2 h7 h3 h8 ▸ hj)
/-- What is known of the start's memory holds on. -/
def Md.ok (D δ : List Nat) (w1 : World) (σ : St) (a : Act) (w : World) : Md → Prop
  | .same => w = w1 ∧ ∀ i, i ∈ D → ∃ b, σ.bx[i]? = some b ∧ b ≠ .hid
  | .old τ => Fw δ w1 w ∧ ∃ μ ok, Rl μ ok τ a w1 ∧ (∀ i, i ∈ D → ∃ b, τ.bx[i]? = some b ∧ b ≠ .hid) ∧ δ = D.map fun i => μ.getD i 0
  | .gone => True
theorem Md.ok_fw {D δ : List Nat} {w1 : World} {σ : St} {a : Act} {w : World} {m : Md} (hm : m ≠ .gone) (h : m.ok D δ w1 σ a w) : Fw δ w1 w := by
  cases m with
  | same => have e : w = w1 := h.1; subst e; exact Fw.refl _ _
  | old τ => exact h.1
  | gone => exact absurd rfl hm
theorem putO_bx (σ : St) (d : Option Nat) (r : A) : (σ.putO d r).bx = σ.bx := by
  cases d with
  | none => rfl
  | some d => show (if _ then _ else _ : St).bx = _; split <;> rfl
theorem Md.ok_put {D δ : List Nat} {w1 : World} {σ : St} {a : Act} {w : World} {m : Md} (d : Option Nat) (x : A) (v : Value) (h : m.ok D δ w1 σ a w) : (m.junk d).ok D δ w1 (σ.putO d x) (a.put d v) w := by
  cases m with
  | same => exact ⟨h.1, by rw [putO_bx]; exact h.2⟩
  | old τ =>
    obtain ⟨h1, μ, ok, h2, h3, h4⟩ := h
    exact ⟨h1, μ, ok, h2.put d (r := .junk) trivial, by rw [putO_bx]; exact h3, h4⟩
  | gone => trivial
theorem Md.ok_after {D δ : List Nat} {w1 : World} {ν : List Nat} {σ σ' : St} {a : Act} {w w' : World} {m : Md} (hm : m ≠ .gone) (d : Option Nat) (v : Value) (hR : RelX ok0 μ0 w0 ν σ a w) (hδ : δ = D.map fun i => (μ0 ++ ν).getD i 0) (h : m.ok D δ w1 σ a w) (hb : Fw δ w w') : (m.after σ d).ok D δ w1 σ' (a.put d v) w' := by
  cases m with
  | same =>
    obtain ⟨e, h3⟩ := h
    subst e
    obtain ⟨ok, _, h2, _⟩ := hR
    exact ⟨hb, _, ok, h2.put d (r := .junk) trivial, by rw [putO_bx]; exact h3, hδ⟩
  | old τ =>
    obtain ⟨h1, μ, ok, h2, h3, h4⟩ := h
    exact ⟨h1.trans hb, μ, ok, h2.put d (r := .junk) trivial, by rw [putO_bx]; exact h3, h4⟩
  | gone => exact absurd rfl hm
theorem getD_more {l r : List Nat} {i : Nat} (h : i < l.length) : (l ++ r).getD i 0 = l.getD i 0 := by
  rw [List.getD_eq_getElem?_getD, List.getD_eq_getElem?_getD, List.getElem?_append_left h]
theorem aplan_ok (hT : ∀ t i, T t = some i → TyOK P t i) {ops : Array Oper} {Q : Exit → Act → World → Prop} {k : St → Prop} {w1 : World} {ds D δ : List Nat} {B : List Nat} {Tb : Bool × List (List Nat × List Nat)}
    (hpan : ∀ c (a : Act) d v w, Q (.panic c) (a.put d v) w → Q (.panic c) a w) (hQ : ∀ σ a w, Rel ok0 μ0 w0 σ a w → k σ → Q .normal a w) (hTb : rtab .any ops = Tb) (h1 : Tb.1 = true) (hB : waitsOk Tb.2 B = true) :
    ∀ (p : List Sp) (l : List Bool) (n : Nat) (m : Md) (ν : List Nat) (σ : St) (a : Act) (w : World), p.length = n → planT Tb B ds p l = true → RelX ok0 μ0 w0 ν σ a w → (∀ i, i ∈ D → i < (μ0 ++ ν).length) → (δ = D.map fun i => (μ0 ++ ν).getD i 0) → m.ok D δ w1 σ a w → aplan P T ops D p m σ k →
      wpAnyLast P .any ops Q (fun w' => Fw δ w1 w') ds n l.toArray a w
  | [], l, n, m, ν, σ, a, w, hn, hp, hR, hDl, hδ, hm, he => done_ (done_of hTb (by simpa [planT] using hp)) (hQ σ a w ⟨ν, hR⟩ he)
  | .take i :: r, l, n, m, ν, σ, a, w, hn, hp, hR, hDl, hδ, hm, he => by
    subst hn
    simp only [planT, Bool.and_eq_true] at hp
    obtain ⟨⟨⟨⟨hp1, hp2⟩, hp3⟩, hp4⟩, hp5⟩ := hp
    unfold aplan at he
    split at he
    · rename_i o ho
      have hc : takeB .any ops ds l.toArray (l.set i true).toArray i = true := take_ofW hTb hB (by simp [takeW, h1, hp1, hp2, hp3, hp4])
      -- from what is told at the start: the value
      have step : ∀ {τ : St} {μ1 : List Nat} {ok1 : Nat → Prop} {p : Prop} {x : A}, Rl μ1 ok1 τ a w1 → (∀ i, i ∈ D → ∃ b, τ.bx[i]? = some b ∧ b ≠ .hid) → (δ = D.map fun i => μ1.getD i 0) → Fw δ w1 w → areg T ops o (τ.hide D) = some (p, x) → p →
          (∀ v, RA (RL μ1 ok1 w1) x v → ((Region.wanted o (yielded ops a.tmps) = true ∧ (execOp a.eval o).run P w = .ok (.value v) w) ∨ (Region.wanted o (yielded ops a.tmps) = false ∧ v = undef)) → wpAnyLast P .any ops Q (fun w' => Fw δ w1 w') ds r.length (l.set i true).toArray (a.put o.dst v) w) →
          wpAnyLast P .any ops Q (fun w' => Fw δ w1 w') ds (r.length + 1) l.toArray a w := by
        intro τ μ1 ok1 p x hR1 hD1 hδ1 hS ha hp hnext
        obtain ⟨v, h4, h5⟩ := areg_ok hT (hR1.hide D) ha hp
        have hag : ∀ w', Fw δ w1 w' → Ag μ1 ok1 (τ.hide D).bx w1 w' := fun w' hb => Ag.fw hR1 hD1 (hδ1 ▸ hb)
        refine take_ (i := i) (N := o.dst) (v := v) (l.set i true).toArray ho rfl hc (fun c a w => hpan c a _ _ w) ?_ hS rfl (hnext v h4 ?_)
        · rcases h5 with ⟨h5, h6⟩ | ⟨h5, h6⟩
          · exact .inl ⟨h5, fun w' hb => h6 w' (.inr (hag w' hb))⟩
          · exact .inr ⟨h5, h6⟩
        · rcases h5 with ⟨h5, h6⟩ | ⟨h5, h6⟩
          · exact .inl ⟨h5, h6 w (.inr (hag w hS))⟩
          · exact .inr ⟨h5, h6⟩
      split at he
      · obtain ⟨e, hD1⟩ := hm
        subst e
        split at he
        · rename_i p x ha
          obtain ⟨ok, h0, hRl, hO⟩ := id hR
          refine step hRl hD1 hδ (Fw.refl _ _) ha he.1 fun v hv _ => ?_
          exact aplan_ok hT hpan hQ hTb h1 hB r _ _ .same ν _ _ _ rfl hp5 ⟨ok, by rw [putO_m]; exact h0, hRl.put o.dst hv, hO⟩ hDl hδ ⟨rfl, by rw [putO_bx]; exact hD1⟩ he.2
        · exact he.elim
      · rename_i τ
        obtain ⟨hS, μ1, ok1, hR1, hD1, hδ1⟩ := hm
        split at he
        · rename_i p x p' x' ha ha'
          obtain ⟨hq1, hq2, hq3⟩ := he
          refine step hR1 hD1 hδ1 hS ha hq1 fun v hv hrun => ?_
          obtain ⟨ok, h0, hRl, hO⟩ := id hR
          obtain ⟨v', h4, h5⟩ := areg_ok hT hRl ha' hq2
          have e : v' = v := by
            rcases h5 with ⟨h5, h6⟩ | ⟨h5, h6⟩ <;> rcases hrun with ⟨h7, h8⟩ | ⟨h7, h8⟩
            · have h6 := h6 w (.inr (Ag.refl _ _ _ _))
              rw [h8] at h6
              simp only [Result.ok.injEq, Next.value.injEq, and_true] at h6
              exact h6.symm
            · rw [h5] at h7; cases h7
            · rw [h5] at h7; cases h7
            · rw [h6, h8]
          subst e
          exact aplan_ok hT hpan hQ hTb h1 hB r _ _ (.old (τ.putO o.dst x)) ν _ _ _ rfl hp5 ⟨ok, by rw [putO_m]; exact h0, hRl.put o.dst h4, hO⟩ hDl hδ ⟨hS, μ1, ok1, hR1.put o.dst hv, by rw [putO_bx]; exact hD1, hδ1⟩ hq3
        · exact he.elim
      · exact he.elim
    · exact he.elim
  | .pure i :: r, l, n, m, ν, σ, a, w, hn, hp, hR, hDl, hδ, hm, he => by
    subst hn
    simp only [planT, Bool.and_eq_true] at hp
    obtain ⟨⟨hp1, hp2⟩, hp5⟩ := hp
    unfold aplan at he
    split at he
    · rename_i o ho
      split at he
      · rename_i p x ha
        obtain ⟨hq1, hq2, hq3⟩ := he
        obtain ⟨ok, h0, hRl, hO⟩ := id hR
        obtain ⟨v, h4, h5⟩ := areg_ok hT hRl ha hq2
        refine pure_ (i := i) (N := o.dst) (v := v) (l.set i true).toArray ho rfl (any_of hTb (by simp [anyT, h1, hp1, hp2])) (fun c a w => hpan c a _ _ w) ?_ rfl ?_
        · rcases h5 with ⟨h5, h6⟩ | ⟨h5, h6⟩
          · exact .inl ⟨h5, fun w' => h6 w' (.inl hq1)⟩
          · exact .inr ⟨h5, h6⟩
        · exact aplan_ok hT hpan hQ hTb h1 hB r _ _ _ ν _ _ _ rfl hp5 ⟨ok, by rw [putO_m]; exact h0, hRl.put o.dst h4, hO⟩ hDl hδ (Md.ok_put o.dst x v hm) hq3
      · exact he.elim
    · exact he.elim
  | .one i :: r, l, n, m, ν, σ, a, w, hn, hp, hR, hDl, hδ, hm, he => by
    subst hn
    simp only [planT, Bool.and_eq_true] at hp
    obtain ⟨⟨hp1, hp2⟩, hp5⟩ := hp
    unfold aplan at he
    split at he
    · exact he.elim
    · rename_i hne
      have hne : m ≠ .gone := hne
      split at he
      · rename_i o ho
        refine one_ (i := i) (N := o.dst) (l.set i true).toArray ho rfl (one_of hTb (by simpa using hp1)) (by simpa using hp2) fun K hK => ?_
        refine aoper_ok hT hR he fun ν2 σ' v w' h3 h4 h5 => ?_
        have hw := h4 D rfl
        rw [← hδ] at hw
        have h6 := Md.ok_after (σ' := σ') hne o.dst v hR hδ hm hw
        have hb := (Md.ok_fw hne hm).trans hw
        have hDl2 : ∀ i, i ∈ D → i < (μ0 ++ (ν ++ ν2)).length := fun i hi => by have := hDl i hi; rw [← List.append_assoc, List.length_append]; omega
        have hδ2 : δ = D.map fun i => (μ0 ++ (ν ++ ν2)).getD i 0 := by
          rw [hδ]
          refine List.map_congr_left fun i hi => ?_
          rw [← List.append_assoc, getD_more (hDl i hi)]
        exact hK.out _ _ hb fun _ => aplan_ok hT hpan hQ hTb h1 hB r _ _ _ (ν ++ ν2) _ _ _ rfl hp5 h3 hDl2 hδ2 h6 h5
      · exact he.elim
  | .last i :: r, l, n, m, ν, σ, a, w, hn, hp, hR, hDl, hδ, hm, he => by
    subst hn
    simp only [planT, Bool.and_eq_true] at hp
    obtain ⟨⟨hp1, hp2⟩, hp5⟩ := hp
    unfold aplan at he
    split at he
    · rename_i o ho
      refine last_ (i := i) (N := o.dst) (l.set i true).toArray ho rfl (one_of hTb (by simpa using hp1)) (by simpa using hp2) fun K hK => ?_
      refine aoper_ok hT hR he fun ν2 σ' v w' h3 h4 h5 => ?_
      have hDl2 : ∀ i, i ∈ D → i < (μ0 ++ (ν ++ ν2)).length := fun i hi => by have := hDl i hi; rw [← List.append_assoc, List.length_append]; omega
      have hδ2 : δ = D.map fun i => (μ0 ++ (ν ++ ν2)).getD i 0 := by
        rw [hδ]
        refine List.map_congr_left fun i hi => ?_
        rw [← List.append_assoc, getD_more (hDl i hi)]
      exact hK.out _ _ (aplan_ok hT hpan hQ hTb h1 hB r _ _ .gone (ν ++ ν2) _ _ _ rfl hp5 h3 hDl2 hδ2 trivial h5)
    · exact he.elim
theorem afork_ok (hT : ∀ t i, T t = some i → TyOK P t i) {ops : Array Oper} {Q : Exit → Act → World → Prop} {k : St → Prop} {w1 : World} {ds D δ : List Nat} {B : List Nat} {Tb : Bool × List (List Nat × List Nat)}
    (hpan : ∀ c (a : Act) d v w, Q (.panic c) (a.put d v) w → Q (.panic c) a w) (hQ : ∀ σ a w, Rel ok0 μ0 w0 σ a w → k σ → Q .normal a w) (hTb : rtab .any ops = Tb) (h1 : Tb.1 = true) (hB : waitsOk Tb.2 B = true) :
    ∀ (p : Pl) (l : List Bool) (n : Nat) (m : Md) (ν : List Nat) (σ : St) (a : Act) (w : World), planF Tb B ds p n l = true → RelX ok0 μ0 w0 ν σ a w → (∀ i, i ∈ D → i < (μ0 ++ ν).length) → (δ = D.map fun i => (μ0 ++ ν).getD i 0) → m.ok D δ w1 σ a w → afork P T ops D p m σ k →
      wpAnyLast P .any ops Q (fun w' => Fw δ w1 w') ds n l.toArray a w
  | .nil, l, n, m, ν, σ, a, w, hp, hR, hDl, hδ, hm, he => done_ (done_of hTb (by simpa [planF] using hp)) (hQ σ a w ⟨ν, hR⟩ he)
  | .take i r, l, 0, m, ν, σ, a, w, hp, hR, hDl, hδ, hm, he => by simp [planF] at hp
  | .take i r, l, n + 1, m, ν, σ, a, w, hp, hR, hDl, hδ, hm, he => by
    simp only [planF, Bool.and_eq_true] at hp
    obtain ⟨⟨⟨⟨hp1, hp2⟩, hp3⟩, hp4⟩, hp5⟩ := hp
    unfold afork at he
    split at he
    · rename_i o ho
      have hc : takeB .any ops ds l.toArray (l.set i true).toArray i = true := take_ofW hTb hB (by simp [takeW, h1, hp1, hp2, hp3, hp4])
      -- from what is told at the start: the value
      have step : ∀ {τ : St} {μ1 : List Nat} {ok1 : Nat → Prop} {p : Prop} {x : A}, Rl μ1 ok1 τ a w1 → (∀ i, i ∈ D → ∃ b, τ.bx[i]? = some b ∧ b ≠ .hid) → (δ = D.map fun i => μ1.getD i 0) → Fw δ w1 w → areg T ops o (τ.hide D) = some (p, x) → p →
          (∀ v, RA (RL μ1 ok1 w1) x v → ((Region.wanted o (yielded ops a.tmps) = true ∧ (execOp a.eval o).run P w = .ok (.value v) w) ∨ (Region.wanted o (yielded ops a.tmps) = false ∧ v = undef)) → wpAnyLast P .any ops Q (fun w' => Fw δ w1 w') ds n (l.set i true).toArray (a.put o.dst v) w) →
          wpAnyLast P .any ops Q (fun w' => Fw δ w1 w') ds (n + 1) l.toArray a w := by
        intro τ μ1 ok1 p x hR1 hD1 hδ1 hS ha hp hnext
        obtain ⟨v, h4, h5⟩ := areg_ok hT (hR1.hide D) ha hp
        have hag : ∀ w', Fw δ w1 w' → Ag μ1 ok1 (τ.hide D).bx w1 w' := fun w' hb => Ag.fw hR1 hD1 (hδ1 ▸ hb)
        refine take_ (i := i) (N := o.dst) (v := v) (l.set i true).toArray ho rfl hc (fun c a w => hpan c a _ _ w) ?_ hS rfl (hnext v h4 ?_)
        · rcases h5 with ⟨h5, h6⟩ | ⟨h5, h6⟩
          · exact .inl ⟨h5, fun w' hb => h6 w' (.inr (hag w' hb))⟩
          · exact .inr ⟨h5, h6⟩
        · rcases h5 with ⟨h5, h6⟩ | ⟨h5, h6⟩
          · exact .inl ⟨h5, h6 w (.inr (hag w hS))⟩
          · exact .inr ⟨h5, h6⟩
      split at he
      · obtain ⟨e, hD1⟩ := hm
        subst e
        split at he
        · rename_i p x ha
          obtain ⟨ok, h0, hRl, hO⟩ := id hR
          refine step hRl hD1 hδ (Fw.refl _ _) ha he.1 fun v hv _ => ?_
          exact afork_ok hT hpan hQ hTb h1 hB r _ _ .same ν _ _ _ hp5 ⟨ok, by rw [putO_m]; exact h0, hRl.put o.dst hv, hO⟩ hDl hδ ⟨rfl, by rw [putO_bx]; exact hD1⟩ he.2
        · exact he.elim
      · rename_i τ
        obtain ⟨hS, μ1, ok1, hR1, hD1, hδ1⟩ := hm
        split at he
        · rename_i p x p' x' ha ha'
          obtain ⟨hq1, hq2, hq3⟩ := he
          refine step hR1 hD1 hδ1 hS ha hq1 fun v hv hrun => ?_
          obtain ⟨ok, h0, hRl, hO⟩ := id hR
          obtain ⟨v', h4, h5⟩ := areg_ok hT hRl ha' hq2
          have e : v' = v := by
            rcases h5 with ⟨h5, h6⟩ | ⟨h5, h6⟩ <;> rcases hrun with ⟨h7, h8⟩ | ⟨h7, h8⟩
            · have h6 := h6 w (.inr (Ag.refl _ _ _ _))
              rw [h8] at h6
              simp only [Result.ok.injEq, Next.value.injEq, and_true] at h6
              exact h6.symm
            · rw [h5] at h7; cases h7
            · rw [h5] at h7; cases h7
            · rw [h6, h8]
          subst e
          exact afork_ok hT hpan hQ hTb h1 hB r _ _ (.old (τ.putO o.dst x)) ν _ _ _ hp5 ⟨ok, by rw [putO_m]; exact h0, hRl.put o.dst h4, hO⟩ hDl hδ ⟨hS, μ1, ok1, hR1.put o.dst hv, by rw [putO_bx]; exact hD1, hδ1⟩ hq3
        · exact he.elim
      · exact he.elim
    · exact he.elim
  | .pure i r, l, 0, m, ν, σ, a, w, hp, hR, hDl, hδ, hm, he => by simp [planF] at hp
  | .pure i r, l, n + 1, m, ν, σ, a, w, hp, hR, hDl, hδ, hm, he => by
    simp only [planF, Bool.and_eq_true] at hp
    obtain ⟨⟨hp1, hp2⟩, hp5⟩ := hp
    unfold afork at he
    split at he
    · rename_i o ho
      split at he
      · rename_i p x ha
        obtain ⟨hq1, hq2, hq3⟩ := he
        obtain ⟨ok, h0, hRl, hO⟩ := id hR
        obtain ⟨v, h4, h5⟩ := areg_ok hT hRl ha hq2
        refine pure_ (i := i) (N := o.dst) (v := v) (l.set i true).toArray ho rfl (any_of hTb (by simp [anyT, h1, hp1, hp2])) (fun c a w => hpan c a _ _ w) ?_ rfl ?_
        · rcases h5 with ⟨h5, h6⟩ | ⟨h5, h6⟩
          · exact .inl ⟨h5, fun w' => h6 w' (.inl hq1)⟩
          · exact .inr ⟨h5, h6⟩
        · exact afork_ok hT hpan hQ hTb h1 hB r _ _ _ ν _ _ _ hp5 ⟨ok, by rw [putO_m]; exact h0, hRl.put o.dst h4, hO⟩ hDl hδ (Md.ok_put o.dst x v hm) hq3
      · exact he.elim
    · exact he.elim
  | .one i r, l, 0, m, ν, σ, a, w, hp, hR, hDl, hδ, hm, he => by simp [planF] at hp
  | .one i r, l, n + 1, m, ν, σ, a, w, hp, hR, hDl, hδ, hm, he => by
    simp only [planF, Bool.and_eq_true] at hp
    obtain ⟨⟨hp1, hp2⟩, hp5⟩ := hp
    unfold afork at he
    split at he
    · exact he.elim
    · rename_i hne
      have hne : m ≠ .gone := hne
      split at he
      · rename_i o ho
        refine one_ (i := i) (N := o.dst) (l.set i true).toArray ho rfl (one_of hTb (by simpa using hp1)) (by simpa using hp2) fun K hK => ?_
        refine aoper_ok hT hR he fun ν2 σ' v w' h3 h4 h5 => ?_
        have hw := h4 D rfl
        rw [← hδ] at hw
        have h6 := Md.ok_after (σ' := σ') hne o.dst v hR hδ hm hw
        have hb := (Md.ok_fw hne hm).trans hw
        have hDl2 : ∀ i, i ∈ D → i < (μ0 ++ (ν ++ ν2)).length := fun i hi => by have := hDl i hi; rw [← List.append_assoc, List.length_append]; omega
        have hδ2 : δ = D.map fun i => (μ0 ++ (ν ++ ν2)).getD i 0 := by
          rw [hδ]
          refine List.map_congr_left fun i hi => ?_
          rw [← List.append_assoc, getD_more (hDl i hi)]
        exact hK.out _ _ hb fun _ => afork_ok hT hpan hQ hTb h1 hB r _ _ _ (ν ++ ν2) _ _ _ hp5 h3 hDl2 hδ2 h6 h5
      · exact he.elim
  | .two i j r s, l, 0, m, ν, σ, a, w, hp, hR, hDl, hδ, hm, he => by simp [planF] at hp
  | .two i j r s, l, n + 1, m, ν, σ, a, w, hp, hR, hDl, hδ, hm, he => by
    simp only [planF, Bool.and_eq_true] at hp
    obtain ⟨⟨⟨⟨hp1, hp2⟩, hp3⟩, hp5⟩, hp6⟩ := hp
    unfold afork at he
    split at he
    · exact he.elim
    · rename_i hne
      have hne : m ≠ .gone := hne
      obtain ⟨he, he2⟩ := he
      split at he
      · rename_i o ho
        split at he2
        · rename_i o2 ho2
          refine two_ (i := i) (j := j) (Ni := o.dst) (Nj := o2.dst) (l.set i true).toArray (l.set j true).toArray ho ho2 rfl rfl (two_of hTb (by simpa using hp1)) (by simpa using hp2) (by simpa using hp3) (fun K hK => ?_) (fun K hK => ?_)
          · refine aoper_ok hT hR he fun ν2 σ' v w' h3 h4 h5 => ?_
            have hw := h4 D rfl
            rw [← hδ] at hw
            have h6 := Md.ok_after (σ' := σ') hne o.dst v hR hδ hm hw
            have hb := (Md.ok_fw hne hm).trans hw
            have hDl2 : ∀ i, i ∈ D → i < (μ0 ++ (ν ++ ν2)).length := fun i hi => by have := hDl i hi; rw [← List.append_assoc, List.length_append]; omega
            have hδ2 : δ = D.map fun i => (μ0 ++ (ν ++ ν2)).getD i 0 := by
              rw [hδ]
              refine List.map_congr_left fun i hi => ?_
              rw [← List.append_assoc, getD_more (hDl i hi)]
            exact hK.out _ _ hb fun _ => afork_ok hT hpan hQ hTb h1 hB r _ _ _ (ν ++ ν2) _ _ _ hp5 h3 hDl2 hδ2 h6 h5
          · refine aoper_ok hT hR he2 fun ν2 σ' v w' h3 h4 h5 => ?_
            have hw := h4 D rfl
            rw [← hδ] at hw
            have h6 := Md.ok_after (σ' := σ') hne o2.dst v hR hδ hm hw
            have hb := (Md.ok_fw hne hm).trans hw
            have hDl2 : ∀ i, i ∈ D → i < (μ0 ++ (ν ++ ν2)).length := fun i hi => by have := hDl i hi; rw [← List.append_assoc, List.length_append]; omega
            have hδ2 : δ = D.map fun i => (μ0 ++ (ν ++ ν2)).getD i 0 := by
              rw [hδ]
              refine List.map_congr_left fun i hi => ?_
              rw [← List.append_assoc, getD_more (hDl i hi)]
            exact hK.out _ _ hb fun _ => afork_ok hT hpan hQ hTb h1 hB s _ _ _ (ν ++ ν2) _ _ _ hp6 h3 hDl2 hδ2 h6 h5
        · exact he2.elim
      · exact he.elim
  | .last i r, l, 0, m, ν, σ, a, w, hp, hR, hDl, hδ, hm, he => by simp [planF] at hp
  | .last i r, l, n + 1, m, ν, σ, a, w, hp, hR, hDl, hδ, hm, he => by
    simp only [planF, Bool.and_eq_true] at hp
    obtain ⟨⟨hp1, hp2⟩, hp5⟩ := hp
    unfold afork at he
    split at he
    · rename_i o ho
      refine last_ (i := i) (N := o.dst) (l.set i true).toArray ho rfl (one_of hTb (by simpa using hp1)) (by simpa using hp2) fun K hK => ?_
      refine aoper_ok hT hR he fun ν2 σ' v w' h3 h4 h5 => ?_
      have hDl2 : ∀ i, i ∈ D → i < (μ0 ++ (ν ++ ν2)).length := fun i hi => by have := hDl i hi; rw [← List.append_assoc, List.length_append]; omega
      have hδ2 : δ = D.map fun i => (μ0 ++ (ν ++ ν2)).getD i 0 := by
        rw [hδ]
        refine List.map_congr_left fun i hi => ?_
        rw [← List.append_assoc, getD_more (hDl i hi)]
      exact hK.out _ _ (afork_ok hT hpan hQ hTb h1 hB r _ _ .gone (ν ++ ν2) _ _ _ hp5 h3 hDl2 hδ2 trivial h5)
    · exact he.elim
def AE.out : AE → Exit
  | .normal => .normal
  | .exit id => .exit id
  | .ret => .ret
theorem least {p : Nat → Prop} (h : ∃ n, p n) : ∃ n, p n ∧ ∀ m, p m → n ≤ m := by
  obtain ⟨n, hn⟩ := h
  induction n using Nat.strongRecOn with
  | _ n ih =>
    by_cases hm : ∃ m, m < n ∧ p m
    · obtain ⟨m, h1, h2⟩ := hm
      exact ih m h1 h2
    · exact ⟨n, hn, fun m hp => by
        rcases Nat.lt_or_ge m n with hlt | hge
        · exact absurd ⟨m, hlt, hp⟩ hm
        · exact hge⟩
open Classical in
noncomputable def leastN (p : Nat → Prop) : Nat := if h : ∃ n, p n then (least h).choose else 0
theorem leastN_spec {p : Nat → Prop} {n : Nat} (h : p n) : p (leastN p) ∧ leastN p ≤ n := by
  have hx : ∃ n, p n := ⟨n, h⟩
  have e : leastN p = (least hx).choose := dif_pos hx
  rw [e]
  exact ⟨(least hx).choose_spec.1, (least hx).choose_spec.2 n h⟩
/-- The second reading is sound: what awp says of the content holds of the run. -/
theorem awp_ok (hT : ∀ t i, T t = some i → TyOK P t i) (hmx : P.follows .mixedOrders = true) : ∀ (c : Code) (Q : AE → St → Prop) (Q' : Exit → Act → World → Prop) (σ : St) (a : Act) (w : World), Rel ok0 μ0 w0 σ a w → awp P T c Q σ →
    (∀ e σ a w, Rel ok0 μ0 w0 σ a w → Q e σ → Q' e.out a w) → (∀ c (a : Act) d v w, Q' (.panic c) (a.put d v) w → Q' (.panic c) a w) → c.wp P Q' a w := by
  intro c
  induction c with
  | skip => intro Q Q' σ a w h he hq hpan; exact wp_skip (hq .normal σ a w h he)
  | region id ops d =>
    intro Q Q' σ a w h he hq hpan
    cases d with
    | true =>
      rcases he with he | he
      · obtain ⟨p, D, hp, hD, he⟩ := he
        obtain ⟨ν, h⟩ := h
        have hD1 : ∀ i, i ∈ D → ∃ b, σ.bx[i]? = some b ∧ b ≠ .hid := by
          intro i hi
          have := List.all_eq_true.1 hD i hi
          cases hb : σ.bx[i]? with
          | none => rw [hb] at this; cases this
          | some b => exact ⟨b, rfl, fun e => by rw [hb, e] at this; cases this⟩
        have hDl : ∀ i, i ∈ D → i < (μ0 ++ ν).length := by
          intro i hi
          obtain ⟨b, hb, _⟩ := hD1 i hi
          obtain ⟨ok, _, hR, _⟩ := h
          rw [hR.mem.len]; exact at_in hb
        simp only [planB, Bool.and_eq_true, beq_iff_eq] at hp
        obtain ⟨⟨⟨hp1, hp2⟩, hp3⟩, hp4⟩ := hp
        refine start_ (S := fun w' => Fw (D.map fun i => (μ0 ++ ν).getD i 0) w.drew w') (ds := lasts p) (Array.replicate ops.size false) hmx rfl rfl (Fw.refl _ _) fun _ => ?_
        have := aplan_ok (Q := Q') hT hpan (fun σ a w h1 h2 => hq .normal σ a w h1 h2) rfl hp1 hp2 p (List.replicate ops.size false) ops.size .same ν σ a w.drew hp3 hp4 h.drew hDl rfl ⟨rfl, hD1⟩ he
        simpa using this
      · obtain ⟨p, D, hp, hD, he⟩ := he
        obtain ⟨ν, h⟩ := h
        have hD1 : ∀ i, i ∈ D → ∃ b, σ.bx[i]? = some b ∧ b ≠ .hid := by
          intro i hi
          have := List.all_eq_true.1 hD i hi
          cases hb : σ.bx[i]? with
          | none => rw [hb] at this; cases this
          | some b => exact ⟨b, rfl, fun e => by rw [hb, e] at this; cases this⟩
        have hDl : ∀ i, i ∈ D → i < (μ0 ++ ν).length := by
          intro i hi
          obtain ⟨b, hb, _⟩ := hD1 i hi
          obtain ⟨ok, _, hR, _⟩ := h
          rw [hR.mem.len]; exact at_in hb
        simp only [planC, Bool.and_eq_true] at hp
        obtain ⟨⟨hp1, hp2⟩, hp4⟩ := hp
        refine start_ (S := fun w' => Fw (D.map fun i => (μ0 ++ ν).getD i 0) w.drew w') (ds := p.lasts) (Array.replicate ops.size false) hmx rfl rfl (Fw.refl _ _) fun _ => ?_
        have := afork_ok (Q := Q') hT hpan (fun σ a w h1 h2 => hq .normal σ a w h1 h2) rfl hp1 hp2 p (List.replicate ops.size false) ops.size .same ν σ a w.drew hp4 h.drew hDl rfl ⟨rfl, hD1⟩ he
        simpa using this
    | false =>
      obtain ⟨ν, h⟩ := h
      exact wp_region_list (aops_ok hT (k := Q .normal) (fun σ a w h1 h2 => hq .normal σ a w h1 h2) _ _ _ _ _ h he)
  | seq x y ihx ihy =>
    intro Q Q' σ a w h he hq hpan
    refine wp_seq (ihx _ (Exit.then (y.wp P Q') Q') σ a w h he (fun e σ a w h1 h2 => ?_) hpan)
    cases e with
    | normal =>
      rcases h2 with h2 | ⟨ks, js, hg, h2⟩
      · exact ihy Q Q' σ a w h1 h2 hq hpan
      · exact ihy Q Q' _ a w (h1.keep ks js hg) h2 hq hpan
    | exit id => exact hq (.exit id) σ a w h1 h2
    | ret => exact hq .ret σ a w h1 h2
  | cond c x y ihx ihy =>
    intro Q Q' σ a w h he hq hpan
    have he : acond (strip (σ.ev c)) (awp P T x Q σ) (awp P T y Q σ) := he
    unfold acond at he
    split at he
    · rename_i g t heq
      obtain ⟨rfl, h1, h2⟩ := he
      have hc : a.eval c = .bool t := by
        obtain ⟨ν, ok, _, hR, _⟩ := h
        have := SR.of (ev_ok hR c)
        rw [heq] at this
        exact this rfl
      exact wp_cond_split hc (fun ht => ihx Q Q' σ a w h (h1 ht) hq hpan) (fun ht => ihy Q Q' σ a w h (h2 ht) hq hpan)
    · exact he.elim
  | block id x ih =>
    intro Q Q' σ a w h he hq hpan
    refine wp_block (ih _ (Exit.inBlock id Q') σ a w h he (fun e σ a w h1 h2 => ?_) hpan)
    cases e with
    | normal => exact hq .normal σ a w h1 h2
    | ret => exact hq .ret σ a w h1 h2
    | exit i =>
      show (if i = id then Q' .normal a w else Q' (.exit i) a w)
      by_cases e : i = id
      · rw [if_pos e]
        have h2 : (if i = id then Q .normal σ else Q (.exit i) σ) := h2
        rw [if_pos e] at h2
        exact hq .normal σ a w h1 h2
      · rw [if_neg e]
        have h2 : (if i = id then Q .normal σ else Q (.exit i) σ) := h2
        rw [if_neg e] at h2
        exact hq (.exit i) σ a w h1 h2
  | loop x ih =>
    intro Q Q' σ a w h he hq hpan
    obtain ⟨ks, js, I, n, hg, h0, hround⟩ := he
    have hI : ∀ {a w}, (∃ n σ', Rel ok0 μ0 w0 σ' a w ∧ I n σ') → ∃ σ', Rel ok0 μ0 w0 σ' a w ∧ I (leastN fun n => ∃ σ', Rel ok0 μ0 w0 σ' a w ∧ I n σ') σ' := fun {a w} ⟨n, h⟩ => (leastN_spec (p := fun n => ∃ σ', Rel ok0 μ0 w0 σ' a w ∧ I n σ') h).1
    refine wp_loop (fun a w => ∃ n σ', Rel ok0 μ0 w0 σ' a w ∧ I n σ') (fun a w => leastN fun n => ∃ σ', Rel ok0 μ0 w0 σ' a w ∧ I n σ') ⟨n, _, h.keep ks js hg, h0⟩ fun a1 w1 h1 => ?_
    obtain ⟨σ1, h2, h3⟩ := hI h1
    refine ih _ _ σ1 a1 w1 h2 (hround _ _ h3) (fun e σ2 a2 w2 h4 h5 => ?_) hpan
    cases e with
    | normal =>
      obtain ⟨m, js', hm, hg', h6⟩ := h5
      have h7 : ∃ σ', Rel ok0 μ0 w0 σ' a2 w2 ∧ I m σ' := ⟨_, h4.keep ks js' hg', h6⟩
      exact ⟨⟨m, h7⟩, Nat.lt_of_le_of_lt (leastN_spec (p := fun n => ∃ σ', Rel ok0 μ0 w0 σ' a2 w2 ∧ I n σ') h7).2 hm⟩
    | exit id => exact hq (.exit id) σ2 a2 w2 h4 h5
    | ret => exact hq .ret σ2 a2 w2 h4 h5
  | exit id => intro Q Q' σ a w h he hq hpan; exact wp_exit (hq (.exit id) σ a w h he)
  | ret => intro Q Q' σ a w h he hq hpan; exact wp_ret (hq .ret σ a w h he)
  | scope x ih =>
    intro Q Q' σ a w h he hq hpan
    refine wp_scope_straight (ih Q (Exit.noGoto Q') σ a w h he (fun e σ a w h1 h2 => ?_) hpan)
    cases e with
    | normal => exact hq .normal σ a w h1 h2
    | exit id => exact hq (.exit id) σ a w h1 h2
    | ret => exact hq .ret σ a w h1 h2
  | _ => intro Q Q' σ a w h he hq hpan; exact he.elim
end
section
variable {P : Program} {T : Ty} {ok0 : Nat → Prop} {μ0 : List Nat} {w0 : World}
/-- It tells less. -/
inductive leC : C → C → Prop where
  | refl (x : C) : leC x x
  | any (x : C) : leC x .any
  | nil (sz : Nat) (f : Nat → Nat → C) : leC (.v (.slice none 0 0)) (.sl 0 sz f)
  | row (n sz : Nat) (f g : Nat → Nat → C) (h : ∀ i, i < n → ∀ j, j < sz → leC (f i j) (g i j)) : leC (.sl n sz f) (.sl n sz g)
inductive leL : L → L → Prop where
  | refl (l : L) : leL l l
  | c (x y : C) (h : leC x y) : leL (.c x) (.c y)
  | junk (l : L) : leL l .junk
inductive leLs : List L → List L → Prop where
  | nil : leLs [] []
  | cons {l l' : L} {r r' : List L} (h : leL l l') (hr : leLs r r') : leLs (l :: r) (l' :: r')
inductive leA : A → A → Prop where
  | refl (a : A) : leA a a
  | one {l l' : L} (h : leL l l') : leA (.one l) (.one l')
  | agg {ls ls' : List L} (h : leLs ls ls') : leA (.agg ls) (.agg ls')
  | tup2 {x y x' y' : List L} {p q : Bool} (h : leLs x x') (h2 : leLs y y') : leA (.tup [(x, p), (y, q)]) (.tup [(x', p), (y', q)])
  | tup3 {x y z x' y' z' : List L} {p q r : Bool} (h : leLs x x') (h2 : leLs y y') (h3 : leLs z z') : leA (.tup [(x, p), (y, q), (z, r)]) (.tup [(x', p), (y', q), (z', r)])
inductive leB : B → B → Prop where
  | refl (b : B) : leB b b
  | var {ls ls' : List L} (t : TypeId) (h : leLs ls ls') : leB (.var ls t) (.var ls' t)
  | arr {es es' : List (List L)} (sz : Nat) (t : TypeId) (hl : es.length = es'.length) (h : ∀ (i : Nat) e e', es[i]? = some e → es'[i]? = some e' → leLs e e') : leB (.arr es sz t) (.arr es' sz t)
  | hid (b : B) : leB b .hid
inductive leBs : List B → List B → Prop where
  | nil : leBs [] []
  | cons {b b' : B} {r r' : List B} (h : leB b b') (hr : leBs r r') : leBs (b :: r) (b' :: r')
theorem leLs.refl : ∀ ls, leLs ls ls
  | [] => .nil
  | l :: r => .cons (.refl l) (leLs.refl r)
theorem leBs.refl : ∀ bs, leBs bs bs
  | [] => .nil
  | b :: r => .cons (.refl b) (leBs.refl r)
section
variable {μ : List Nat} {ok : Nat → Prop} {w : World}
theorem RC_le {x y : C} (h : leC x y) : ∀ {u : Value}, RC ok w x u → RC ok w y u := by
  induction h with
  | refl x => exact fun h => h
  | any x => exact fun _ => trivial
  | nil sz f =>
    intro u h
    have e : u = .slice none 0 0 := h
    exact ⟨none, 0, e, ⟨Nat.le_refl _, by omega⟩, fun i hi => by omega⟩
  | row n sz f g h ih =>
    intro u hu
    obtain ⟨a, cap, h1, h2, h3⟩ := hu
    refine ⟨a, cap, h1, h2, fun i hi j hj => ?_⟩
    obtain ⟨b, v, h4, h5, h6, h7⟩ := h3 i hi j hj
    exact ⟨b, v, h4, h5, h6, ih i hi j hj h7⟩
theorem RL_le {l l' : L} (h : leL l l') {u : Value} (hu : RL μ ok w l u) : RL μ ok w l' u := by
  cases h with
  | refl => exact hu
  | c x y h => exact RC_le h hu
  | junk => trivial
theorem RLs_le {ls ls' : List L} (h : leLs ls ls') : ∀ {cs : List Value}, RLs (RL μ ok w) ls cs → RLs (RL μ ok w) ls' cs := by
  induction h with
  | nil => exact fun h => h
  | cons h hr ih =>
    intro cs hc
    cases cs with
    | nil => have := hc.1; simp at this
    | cons c cs =>
      have h1 : RLs (RL μ ok w) _ cs := ⟨by have := hc.1; simpa using this, fun j l hj => hc.2 (j + 1) l hj⟩
      have h2 := ih h1
      refine ⟨by simp [h2.1], fun j l hj => ?_⟩
      cases j with
      | zero =>
        obtain ⟨v, h3, h4⟩ := hc.2 0 _ rfl
        obtain rfl := Option.some.inj hj
        exact ⟨v, h3, RL_le h h4⟩
      | succ j => exact h2.2 j l hj
theorem RV_le {ls ls' : List L} {p : Bool} (h : leLs ls ls') {u : Value} (hu : RV (RL μ ok w) (ls, p) u) : RV (RL μ ok w) (ls', p) u := by
  refine ⟨fun hp => ?_, fun hp => ?_⟩
  · obtain ⟨cs, h1, h2⟩ := hu.1 hp
    exact ⟨cs, h1, RLs_le h h2⟩
  · obtain ⟨l, h1, h2⟩ := hu.2 hp
    have h1 : ls = [l] := h1
    subst h1
    cases h with
    | cons h hr => cases hr with
      | nil => exact ⟨_, rfl, RL_le h h2⟩
theorem RA_le {a a' : A} (h : leA a a') {u : Value} (hu : RA (RL μ ok w) a u) : RA (RL μ ok w) a' u := by
  cases h with
  | refl => exact hu
  | one h => exact RL_le h hu
  | agg h =>
    obtain ⟨cs, h1, h2⟩ := hu
    exact ⟨cs, h1, RLs_le h h2⟩
  | tup2 h h2 =>
    obtain ⟨vs, h3, h4, h5⟩ := hu
    refine ⟨vs, h3, h4, fun j x hj => ?_⟩
    match j, hj with
    | 0, hj => obtain rfl := Option.some.inj hj
               obtain ⟨v, h6, h7⟩ := h5 0 _ rfl
               exact ⟨v, h6, RV_le h h7⟩
    | 1, hj => obtain rfl := Option.some.inj hj
               obtain ⟨v, h6, h7⟩ := h5 1 _ rfl
               exact ⟨v, h6, RV_le h2 h7⟩
    | j + 2, hj => simp at hj
  | tup3 h h2 h3' =>
    obtain ⟨vs, h3, h4, h5⟩ := hu
    refine ⟨vs, h3, h4, fun j x hj => ?_⟩
    match j, hj with
    | 0, hj => obtain rfl := Option.some.inj hj
               obtain ⟨v, h6, h7⟩ := h5 0 _ rfl
               exact ⟨v, h6, RV_le h h7⟩
    | 1, hj => obtain rfl := Option.some.inj hj
               obtain ⟨v, h6, h7⟩ := h5 1 _ rfl
               exact ⟨v, h6, RV_le h2 h7⟩
    | 2, hj => obtain rfl := Option.some.inj hj
               obtain ⟨v, h6, h7⟩ := h5 2 _ rfl
               exact ⟨v, h6, RV_le h3' h7⟩
    | j + 3, hj => simp at hj
theorem leLs.len {ls ls' : List L} (h : leLs ls ls') : ls.length = ls'.length := by
  induction h with
  | nil => rfl
  | cons _ _ ih => simp [ih]
theorem leLs.at_ {ls ls' : List L} (h : leLs ls ls') : ∀ (j : Nat) l', ls'[j]? = some l' → ∃ l, ls[j]? = some l ∧ leL l l' := by
  induction h with
  | nil => intro j l h; simp at h
  | cons h hr ih =>
    intro j l' hj
    cases j with
    | zero => obtain rfl := Option.some.inj hj
              exact ⟨_, rfl, h⟩
    | succ j => exact ih j l' hj
theorem BoxR_le {g : Nat} {b b' : B} (h : leB b b') (hb : BoxR μ ok w g b) : BoxR μ ok w g b' := by
  cases h with
  | refl => exact hb
  | var t h =>
    obtain ⟨cs, h1, h2⟩ := hb
    exact ⟨cs, h1, RLs_le h h2⟩
  | arr sz t hl h =>
    obtain ⟨cs, cap, h1, h2, h3, h4, h5⟩ := hb
    refine ⟨cs, cap, h1, h2, by omega, h4, fun i e' he' => ?_⟩
    have hi := at_in he'
    rw [← hl] at hi
    have he := List.getElem?_eq_getElem hi
    have hle := h i _ e' he he'
    obtain ⟨h6, h7⟩ := h5 i _ he
    refine ⟨by rw [← hle.len]; exact h6, fun j x hx => ?_⟩
    obtain ⟨l, h8, h9⟩ := hle.at_ j x hx
    obtain ⟨v, h10, h11⟩ := h7 j l h8
    exact ⟨v, h10, RL_le h9 h11⟩
  | hid => trivial
theorem leBs.len {bs bs' : List B} (h : leBs bs bs') : bs.length = bs'.length := by
  induction h with
  | nil => rfl
  | cons _ _ ih => simp [ih]
theorem leBs.at_ {bs bs' : List B} (h : leBs bs bs') : ∀ (j : Nat) b', bs'[j]? = some b' → ∃ b, bs[j]? = some b ∧ leB b b' := by
  induction h with
  | nil => intro j l h; simp at h
  | cons h hr ih =>
    intro j l' hj
    cases j with
    | zero => obtain rfl := Option.some.inj hj
              exact ⟨_, rfl, h⟩
    | succ j => exact ih j l' hj
theorem leB.hid' {b b' : B} (h : leB b b') (hb : b' ≠ .hid) : b ≠ .hid := by
  cases h with
  | refl => exact hb
  | var t h => simp
  | arr sz t hl h => simp
  | hid => exact absurd rfl hb
theorem Mem_le {bx bx' : List B} (h : leBs bx bx') (hm : Mem μ ok bx w) : Mem μ ok bx' w := by
  refine ⟨by rw [hm.len]; exact h.len, ?_, ?_, hm.there, hm.small, ?_, hm.gl⟩
  · intro i j b b' g h1 h2 hn1 hn2 h3 h4
    obtain ⟨b1, h5, h6⟩ := h.at_ i b h1
    obtain ⟨b2, h7, h8⟩ := h.at_ j b' h2
    exact hm.nd i j b1 b2 g h5 h7 (h6.hid' hn1) (h8.hid' hn2) h3 h4
  · intro i b g h1 h2 hn
    obtain ⟨b1, h5, h6⟩ := h.at_ i b h1
    exact hm.live i b1 g h5 h2 (h6.hid' hn)
  · intro i b g h1 h2
    obtain ⟨b1, h5, h6⟩ := h.at_ i b h1
    exact BoxR_le h6 (hm.box i b1 g h5 h2)
end
/-- A contract, used where more is known of what is handed over. -/
theorem PC.args {P : Program} {f : FuncId} {args args' : List A} {bx0 bx0' : List B} {Q : A → List B → Prop} (h : PC P f args' bx0' Q) (hl : args.length = args'.length) (ha : ∀ (j : Nat) a a', args[j]? = some a → args'[j]? = some a' → leA a a') (hb : leBs bx0 bx0') (hh : ∀ b, b ∈ bx0' → b ≠ .hid) : PC P f args bx0 Q := by
  refine ⟨h.1, fun ok μ0 w cargs h0 h1 h2 h3 => h.2 ok μ0 w cargs hh (Mem_le hb h1) (by omega) (fun j a' hj => ?_)⟩
  have hjl := at_in hj
  obtain ⟨v, h4, h5⟩ := h3 j _ (List.getElem?_eq_getElem (by omega))
  exact ⟨v, h4, RA_le (ha j _ a' (List.getElem?_eq_getElem (by omega)) hj) h5⟩
theorem PC.weak {P : Program} {f : FuncId} {args : List A} {bx0 : List B} {Q Q' : A → List B → Prop} (h : PC P f args bx0 Q) (hq : ∀ r bx, Q r bx → ∃ r' bx', leA r r' ∧ leBs bx bx' ∧ Q' r' bx') : PC P f args bx0 Q' :=
  ⟨h.1, fun ok μ0 w cargs h0 h1 h2 h3 => (h.2 ok μ0 w cargs h0 h1 h2 h3).mono fun e w' ⟨cv, r, bx, ν, ok', he, hQ, h4, h5, rest⟩ =>
    let ⟨r', bx', h6, h7, h8⟩ := hq r bx hQ
    ⟨cv, r', bx', ν, ok', he, h8, RA_le h6 h4, Mem_le h7 h5, rest⟩⟩
/-- What a result is. -/
def resA (T : Ty) (σ : St) : ResultVar → Prop × A
  | .tmp t => ((strip (lk σ.tm t)).1 = true, (strip (lk σ.tm t)).2)
  | .cell a t => pLoad T σ.bx t (strip (lk σ.tm a))
def toPair : A → Option (List L × Bool)
  | .one l => some ([l], false)
  | .agg ls => some (ls, true)
  | _ => none
/-- What is returned: the lent blocks, and some own ones with it; all else is never written again. -/
def aexit (Q : A → List B → Prop) (σ : St) (r : A) : Prop :=
  ∃ (js : List Nat) (r' : A) (bx' : List B), σ.good js ∧ leA (mapA (subL σ.bx (pos (σ.ids js))) r) r' ∧ leBs ((σ.ids js).map fun i => mapB (subL σ.bx (pos (σ.ids js))) (σ.bx.getD i .hid)) bx' ∧ Q r' bx'
def afin (T : Ty) (rs : List ResultVar) (Q : A → List B → Prop) (σ : St) : Prop :=
  match rs with
  | [x] => (resA T σ x).1 ∧ aexit Q σ (resA T σ x).2
  | rs => (∀ x, x ∈ rs → (resA T σ x).1) ∧ match rs.mapM fun x => toPair (resA T σ x).2 with
    | some xs => aexit Q σ (.tup xs)
    | none => False
def numb : Nat → List A → List (Nat × A)
  | _, [] => []
  | n, a :: r => (n, a) :: numb (n + 1) r
def start (n : Nat) (args : List A) (bx0 : List B) : St := { nt := args.length + (n - args.length), m := bx0.length, tm := numb 0 args, bx := bx0 }
theorem numb_at : ∀ (args : List A) (k t : Nat), lk (numb k args) (k + t) = args.getD t (.one .junk)
  | [], _, _ => rfl
  | a :: r, k, 0 => by simp [numb, lk]
  | a :: r, k, t + 1 => by
    have := numb_at r (k + 1) t
    rw [show k + 1 + t = k + (t + 1) by omega] at this
    simp only [numb, lk]
    rw [if_neg (by omega), this]
    rfl
theorem exit_ok {ν : List Nat} {ok : Nat → Prop} {σ : St} {a : Act} {w : World} {r : A} {v : Value} {Q : A → List B → Prop} (hm : σ.m = μ0.length) (hR : Rl (μ0 ++ ν) ok σ a w) (hO : Out ok0 μ0 w0 ν ok w) (hr : RA (RL (μ0 ++ ν) ok w) r v) (he : aexit Q σ r) :
    ∃ r' bx' ν' ok', Q r' bx' ∧ RA (RL (μ0 ++ ν') ok' w) r' v ∧ Mem (μ0 ++ ν') ok' bx' w ∧ Out ok0 μ0 w0 ν' ok' w := by
  obtain ⟨js, r', bx', hg, hle, hlb, hQ⟩ := he
  have hp := ids_prefix (ν := ν) (js := js) hm
  have h1 := Mem_keep hR.mem (good_lt hm hR hg) hg.1
  rw [hp] at h1
  refine ⟨r', bx', _, _, hQ, RA_le hle ?_, Mem_le hlb h1, hO.keep hm hR hg⟩
  rw [← hp]
  exact RA_map r v (fun l _ u hl => RL_pick hR.mem _ hl) hr
theorem pLoad_ptr {μ : List Nat} {ok : Nat → Prop} {w : World} {bx : List B} {t : TypeId} {x : Bool × A} {u : Value} (hx : SR (RL μ ok w) x u) (h : (pLoad T bx t x).1) : ∃ b, u = .pointer (some b) := by
  unfold pLoad at h
  split at h
  · split at h
    · obtain ⟨b, hg, hu⟩ := hx h.1
      exact ⟨_, hu⟩
    · exact h.elim
  · split at h
    · obtain ⟨b, hg, hu⟩ := hx h.1
      exact ⟨_, hu⟩
    · exact h.elim
  · obtain ⟨b, hu, _⟩ := hx h.1
    exact ⟨_, hu⟩
  · exact h.elim
def resS (tmps : Array Value) : ResultVar → Sem Value
  | .tmp t => pure (tmps.getD t undef)
  | .cell a t => do loadVar t (← asAddr (tmps.getD a undef))
theorem res_ok (hT : ∀ t i, T t = some i → TyOK P t i) {μ : List Nat} {ok : Nat → Prop} {σ : St} {a : Act} {w : World} (hR : Rl μ ok σ a w) (x : ResultVar) (h : (resA T σ x).1) :
    ∃ v, (resS a.tmps x).run P w = .ok v w ∧ RA (RL μ ok w) (resA T σ x).2 v := by
  cases x with
  | tmp t => exact ⟨_, rfl, RA_strip _ _ (hR.tm t) h⟩
  | cell b t =>
    have hx := SR.of (hR.tm b)
    obtain ⟨v, h1, h2⟩ := pLoad_ok hT hR.mem hx h
    obtain ⟨c, hc⟩ := pLoad_ptr hx h
    refine ⟨v, ?_, h2⟩
    have h1 := h1 w (Ag.refl _ _ _ _)
    rw [hc] at h1
    simp only [resS, hc]
    simpa [Instr.loadAt, Instr.sureAddr, asAddr] using h1
theorem ress_ok (hT : ∀ t i, T t = some i → TyOK P t i) {μ : List Nat} {ok : Nat → Prop} {σ : St} {a : Act} {w : World} (hR : Rl μ ok σ a w) : ∀ (rs : List ResultVar), (∀ x, x ∈ rs → (resA T σ x).1) →
    ∃ vs : List Value, (rs.mapM (resS a.tmps)).run P w = .ok vs w ∧ rs.length = vs.length ∧ ∀ (j : Nat) x, rs[j]? = some x → ∃ v, vs[j]? = some v ∧ RA (RL μ ok w) (resA T σ x).2 v
  | [], _ => ⟨[], rfl, rfl, fun j x h => by simp at h⟩
  | x :: r, h => by
    obtain ⟨v, h1, h2⟩ := res_ok hT hR x (h x (List.mem_cons_self))
    obtain ⟨vs, h3, h4, h5⟩ := ress_ok hT hR r (fun y hy => h y (List.mem_cons_of_mem _ hy))
    refine ⟨v :: vs, by simp [List.mapM_cons, h1, h3], by simp [h4], fun j y hj => ?_⟩
    cases j with
    | zero => obtain rfl : x = y := by simpa using hj
              exact ⟨v, rfl, h2⟩
    | succ j => exact h5 j y hj
theorem run_results {fn : Func} {tmps : Array Value} {w : World} {vs : List Value} (h : (fn.results.toList.mapM (resS tmps)).run P w = .ok vs w) : (results fn tmps).run P w = .ok (if h : vs.length = 1 then vs[0] else .tuple vs.toArray) w := by
  have e : results fn tmps = (do let vs ← fn.results.mapM (resS tmps); pure (if h : vs.size = 1 then vs[0] else .tuple vs)) := by
    unfold results
    congr 1
  rw [e, Array.mapM_eq_mapM_toList]
  simp [h]
theorem fin_ok (hT : ∀ t i, T t = some i → TyOK P t i) {μ : List Nat} {ok : Nat → Prop} {σ : St} {a : Act} {w : World} {fn : Func} {Q : A → List B → Prop} (hR : Rl μ ok σ a w) (h : afin T fn.results.toList Q σ) :
    ∃ v r, (results fn a.tmps).run P w = .ok v w ∧ RA (RL μ ok w) r v ∧ aexit Q σ r := by
  unfold afin at h
  split at h
  · rename_i x hx
    obtain ⟨vs, h1, h2, h3⟩ := ress_ok (P := P) hT hR fn.results.toList (fun y hy => by rw [hx, List.mem_singleton] at hy; subst hy; exact h.1)
    obtain ⟨v, h4, h5⟩ := h3 0 x (by rw [hx]; rfl)
    have hl : vs.length = 1 := by rw [← h2, hx]; rfl
    refine ⟨v, _, ?_, h5, h.2⟩
    rw [run_results h1, dif_pos hl]
    congr 1
    rw [List.getElem?_eq_getElem (by omega)] at h4
    simpa using h4
  · rename_i hne
    obtain ⟨hp, h⟩ := h
    split at h
    · rename_i xs hxs
      obtain ⟨vs, h1, h2, h3⟩ := ress_ok (P := P) hT hR fn.results.toList hp
      obtain ⟨h4, h5⟩ := mapM_at hxs
      have hl : vs.length ≠ 1 := by
        rw [← h2]
        intro e
        obtain ⟨y, hy⟩ := List.length_eq_one_iff.1 e
        exact hne y hy
      refine ⟨.tuple vs.toArray, .tup xs, by rw [run_results h1, dif_neg hl], ⟨vs.toArray, rfl, by rw [← h4, h2]; simp, fun j x hx => ?_⟩, h⟩
      obtain ⟨y, hy, hf⟩ := h5 j x hx
      obtain ⟨v, hv, hra⟩ := h3 j y hy
      refine ⟨v, by simpa using hv, ?_⟩
      unfold toPair at hf
      split at hf
      · rename_i l hl
        rw [hl] at hra
        obtain rfl := Option.some.inj hf
        exact ⟨(fun e => by cases e), (fun _ => ⟨l, rfl, hra⟩)⟩
      · rename_i ls hl
        rw [hl] at hra
        obtain rfl := Option.some.inj hf
        exact ⟨(fun _ => hra), (fun e => by cases e)⟩
      · cases hf
    · exact h.elim
/-- A function's contract, out of the second reading of its body. -/
theorem PC_enter (hT : ∀ t i, T t = some i → TyOK P t i) (hmx : P.follows .mixedOrders = true) {f : FuncId} {fn : Func} {c : Code} {args : List A} {bx0 : List B} {Q : A → List B → Prop} (hf : P.funcs[f]? = some fn) (hn : (fn.name == "runtime.NumGoroutine") = false) (hb : fn.body = some c)
    (h : awp P T c (fun e σ => match e with | .exit _ => False | _ => afin T fn.results.toList Q σ) (start fn.ntmps args bx0)) : PC P f args bx0 Q := by
  refine ⟨⟨fn, hf, hn, by rw [hb]; rfl⟩, fun ok μ0 w cargs hnh hmem hlen hargs => ?_⟩
  refine calls_of_wp hf hb ?_
  have h0 : Rel ok μ0 w (start fn.ntmps args bx0) { tmps := cargs ++ Array.replicate (fn.ntmps - cargs.size) undef, defers := [] } w := by
    refine ⟨[], ok, hmem.len.symm, ⟨by rw [List.append_nil]; exact hmem, by simp [start, hlen], fun t => ?_, rfl⟩, Fw.refl _ _, fun _ h => h, fun _ h => .inl h, fun g hg => by simp at hg⟩
    rw [List.append_nil]
    have := numb_at args 0 t
    rw [Nat.zero_add] at this
    show RA _ (lk (numb 0 args) t) _
    rw [this]
    by_cases ht : t < args.length
    · obtain ⟨v, h1, h2⟩ := hargs t _ (List.getElem?_eq_getElem ht)
      have e : (cargs ++ Array.replicate (fn.ntmps - cargs.size) undef).getD t undef = v := by
        rw [Array.getD_eq_getD_getElem?, Array.getElem?_append_left (by omega), h1]; rfl
      rw [e, List.getD_eq_getElem?_getD, List.getElem?_eq_getElem ht]
      exact h2
    · rw [List.getD_eq_getElem?_getD, List.getElem?_eq_none (by omega)]
      trivial
  have hend : ∀ σ a w', Rel ok μ0 w σ a w' → afin T fn.results.toList Q σ → a.defers = [] ∧ ∃ v, (results fn a.tmps).run P w' = .ok v w' ∧
      ∃ cv r bx ν ok', Ending.returned v = .returned cv ∧ Q r bx ∧ RA (RL (μ0 ++ ν) ok' w') r cv ∧ Mem (μ0 ++ ν) ok' bx w' ∧ (∀ g, g ∈ ν → w.heap.size ≤ g ∨ g ∈ μ0) ∧ Fw μ0 w w' ∧ (∀ k, ok k → ok' k) ∧ (∀ k, ok' k → ok k ∨ w.heap.size ≤ k ∨ k ∈ μ0) := by
    intro σ a w' ⟨ν, ok1, hm, hR, hO⟩ hfin
    obtain ⟨v, r, h1, h2, h3⟩ := fin_ok hT hR hfin
    obtain ⟨r', bx', ν', ok', h4, h5, h6, hO'⟩ := exit_ok hm hR hO h2 h3
    exact ⟨hR.df, v, h1, v, r', bx', ν', ok', rfl, h4, h5, h6, hO'.new, hO'.fw, hO'.ok1, hO'.ok2⟩
  refine awp_ok hT hmx c _ _ _ _ _ h0 h (fun e σ a w' h1 h2 => ?_) ?_
  · cases e with
    | normal => exact hend σ a w' h1 h2
    | ret => exact hend σ a w' h1 h2
    | exit i => exact h2.elim
  · intro c a d v w' h1
    obtain ⟨h2, h3⟩ := h1
    cases d <;> exact ⟨h2, h3⟩
end
/-! The types, as the program has them; and steps through code, the rest held aside. -/
def kindOf (P : Program) (t : TypeId) : TypeDesc → TK
  | .struct fa => .struct (fa.toList.map fun f => (f.offset, f.type)) (!P.stoodInHeld t && !P.eqGuardType P.depth t && fa.toList.all fun f => f.name != "_")
  | .slice e => .slice e
  | .array n e => .array n e
  | d => .prim d
def tyOf (P : Program) : Ty := fun t => match P.underlying t, P.info? t with
  | some d, some j => match j.zero with
    | some z => if z.cells.toList.length = j.size then some ⟨kindOf P t d, j.size, j.bytes, z.cells.toList⟩ else none
    | none => none
  | _, _ => none
theorem tyOf_ok (P : Program) : ∀ t i, tyOf P t = some i → TyOK P t i := by
  intro t i h
  unfold tyOf at h
  split at h
  · rename_i d j hd hj
    split at h
    · rename_i z hz
      split at h
      · rename_i hl
        obtain rfl := Option.some.inj h
        refine ⟨?_, hl, j, z, hj, rfl, rfl, hz, rfl⟩
        cases d with
        | struct fa =>
          refine ⟨fa, hd, rfl, fun e => ?_⟩
          simp only [Bool.and_eq_true, Bool.not_eq_true'] at e
          exact ⟨e.1.1, e.1.2, e.2⟩
        | slice e => exact hd
        | array n e => exact hd
        | _ => exact ⟨hd, (fun _ e => by cases e), (fun _ _ e => by cases e)⟩
      · cases h
    · cases h
  · cases h
section
variable {P : Program} {T : Ty}
def seqQ (K : St → Prop) (Q : AE → St → Prop) : AE → St → Prop
  | .normal, σ => K σ
  | .exit i, σ => Q (.exit i) σ
  | .ret, σ => Q .ret σ
def blockQ (id : Nat) (Q : AE → St → Prop) : AE → St → Prop
  | .normal, σ => Q .normal σ
  | .exit i, σ => if i = id then Q .normal σ else Q (.exit i) σ
  | .ret, σ => Q .ret σ
def loopQ (ks : List Nat) (I : Nat → St → Prop) (n : Nat) (Q : AE → St → Prop) : AE → St → Prop
  | .normal, σ => ∃ m js, m < n ∧ σ.good js ∧ I m (σ.keep ks js)
  | .exit i, σ => Q (.exit i) σ
  | .ret, σ => Q .ret σ
/-- The end of a function: some own blocks go with it. -/
theorem ax {Q : A → List B → Prop} {σ : St} {r : A} (js : List Nat) (h : Q (mapA (subL σ.bx (pos (σ.ids js))) r) ((σ.ids js).map fun i => mapB (subL σ.bx (pos (σ.ids js))) (σ.bx.getD i .hid))) (hg : σ.good js := by simp [St.good, St.ids, upto]) : aexit Q σ r := ⟨js, _, _, hg, .refl _, leBs.refl _, h⟩
/-- The same, told with less. -/
theorem aw {Q : A → List B → Prop} {σ : St} {r : A} (js : List Nat) (r' : A) (bx' : List B) (h1 : leA (mapA (subL σ.bx (pos (σ.ids js))) r) r') (h2 : leBs ((σ.ids js).map fun i => mapB (subL σ.bx (pos (σ.ids js))) (σ.bx.getD i .hid)) bx') (h : Q r' bx') (hg : σ.good js := by simp [St.good, St.ids, upto]) : aexit Q σ r := ⟨js, r', bx', hg, h1, h2, h⟩
/-- What is left to walk. -/
structure Nx (P : Program) (T : Ty) (b : Code) (Q : AE → St → Prop) (K : St → Prop) : Prop where
  go : ∀ σ, awp P T b Q σ → K σ
  cut : ∀ σ ks js, σ.good js → awp P T b Q (σ.keep ks js) → K σ
/-- The end of a function. -/
structure Fn (T : Ty) (rs : List ResultVar) (Q : A → List B → Prop) (Q0 : AE → St → Prop) : Prop where
  ret : ∀ σ, afin T rs Q σ → Q0 .ret σ
  fall : ∀ σ, afin T rs Q σ → Q0 .normal σ
variable {Q : AE → St → Prop} {σ : St}
theorem sq {a b : Code} (h : ∀ K : St → Prop, Nx P T b Q K → awp P T a (seqQ K Q) σ) : awp P T (.seq a b) Q σ := by
  have h := h (fun σ' => awp P T b Q σ' ∨ ∃ ks js, σ'.good js ∧ awp P T b Q (σ'.keep ks js)) ⟨fun _ h => .inl h, fun _ ks m hg h => .inr ⟨ks, m, hg, h⟩⟩
  have e : seqQ (fun σ' => awp P T b Q σ' ∨ ∃ ks js, σ'.good js ∧ awp P T b Q (σ'.keep ks js)) Q = fun e σ' => match e with | .normal => awp P T b Q σ' ∨ ∃ ks js, σ'.good js ∧ awp P T b Q (σ'.keep ks js) | e => Q e σ' := by
    funext e σ'
    cases e <;> rfl
  rw [e] at h
  exact h
theorem bl {id : Nat} {c : Code} (h : awp P T c (blockQ id Q) σ) : awp P T (.block id c) Q σ := by
  have e : blockQ id Q = fun e σ' => match e with | .exit i => if i = id then Q .normal σ' else Q (.exit i) σ' | e => Q e σ' := by
    funext e σ'
    cases e <;> rfl
  rw [e] at h
  exact h
/-- A round of a loop, the rest held aside. -/
structure Lp (ks : List Nat) (I : Nat → St → Prop) (n : Nat) (Q Q1 : AE → St → Prop) : Prop where
  go : ∀ σ m js, m < n → σ.good js → I m (σ.keep ks js) → Q1 .normal σ
  ex : ∀ i σ, Q (.exit i) σ → Q1 (.exit i) σ
  rt : ∀ σ, Q .ret σ → Q1 .ret σ
theorem lp {c : Code} (ks js : List Nat) (I : Nat → St → Prop) (n : Nat) (h0 : I n (σ.keep ks js)) (h : ∀ n σ', I n σ' → ∀ Q1, Lp ks I n Q Q1 → awp P T c Q1 σ') (hg : σ.good js := by simp [St.good, St.ids, upto]) : awp P T (.loop c) Q σ := by
  refine ⟨ks, js, I, n, hg, h0, fun n σ' hI => ?_⟩
  have h := h n σ' hI (loopQ ks I n Q) ⟨fun σ m js h1 h2 h3 => ⟨m, js, h1, h2, h3⟩, fun _ _ h => h, fun _ h => h⟩
  have e : loopQ ks I n Q = fun e s => match e with | .normal => ∃ m js', m < n ∧ s.good js' ∧ I m (s.keep ks js') | e => Q e s := by
    funext e σ'
    cases e <;> rfl
  rw [e] at h
  exact h
/-- The next round. -/
theorem ln {ks : List Nat} {I : Nat → St → Prop} {n : Nat} {Q1 : AE → St → Prop} (m : Nat) (js : List Nat) (hm : m < n) (h : I m (σ.keep ks js)) (hl : Lp ks I n Q Q1 := by assumption) (hg : σ.good js := by simp [St.good, St.ids, upto]) : Q1 .normal σ := hl.go σ m js hm hg h
theorem lx {ks : List Nat} {I : Nat → St → Prop} {n i : Nat} {Q1 : AE → St → Prop} (hl : Lp ks I n Q Q1 := by assumption) (g : Q (.exit i) σ) : Q1 (.exit i) σ := hl.ex i σ g
theorem lr {ks : List Nat} {I : Nat → St → Prop} {n : Nat} {Q1 : AE → St → Prop} (hl : Lp ks I n Q Q1 := by assumption) (g : Q .ret σ) : Q1 .ret σ := hl.rt σ g
theorem rg {id : Nat} {ops : Array Oper} (h : aops P T ops ops.toList σ (Q .normal)) : awp P T (.region id ops false) Q σ := h
theorem dr {id : Nat} {ops : Array Oper} (p : List Sp) (D : List Nat) (h : aplan P T ops D p .same σ (Q .normal)) (hp : planB ops p = true := by kernel_rfl) (hD : (D.all fun i => notHid σ.bx[i]?) = true := by rfl) : awp P T (.region id ops true) Q σ := .inl ⟨p, D, hp, hD, h⟩
theorem df {id : Nat} {ops : Array Oper} (p : Pl) (D : List Nat) (h : afork P T ops D p .same σ (Q .normal)) (hp : planC ops p = true := by kernel_rfl) (hD : (D.all fun i => notHid σ.bx[i]?) = true := by rfl) : awp P T (.region id ops true) Q σ := .inr ⟨p, D, hp, hD, h⟩
theorem cdd {c : Operand} {x y : Code} (h : acond (strip (σ.ev c)) (awp P T x Q σ) (awp P T y Q σ)) : awp P T (.cond c x y) Q σ := h
theorem sk (h : Q .normal σ) : awp P T .skip Q σ := h
theorem xt {id : Nat} (h : Q (.exit id) σ) : awp P T (.exit id) Q σ := h
theorem rt (h : Q .ret σ) : awp P T .ret Q σ := h
theorem sc {c : Code} (h : awp P T c Q σ) : awp P T (.scope c) Q σ := h
theorem nx {b : Code} {K : St → Prop} (g : awp P T b Q σ) (h : Nx P T b Q K := by assumption) : K σ := h.go σ g
/-- Where ways join: some registers and own blocks alone go on. -/
theorem kp {b : Code} {K : St → Prop} (ks js : List Nat) (g : awp P T b Q (σ.keep ks js)) (h : Nx P T b Q K := by assumption) (hg : σ.good js := by simp [St.good, St.ids, upto]) : K σ := h.cut σ ks js hg g
theorem f1 {x : ResultVar} {R : A → List B → Prop} {Q0 : AE → St → Prop} (h : Fn T [x] R Q0 := by assumption) (g : (resA T σ x).1 ∧ aexit R σ (resA T σ x).2) : Q0 .ret σ := h.ret σ g
theorem f2 {x y : ResultVar} {R : A → List B → Prop} {Q0 : AE → St → Prop} (h : Fn T [x, y] R Q0 := by assumption) (g : (resA T σ x).1 ∧ (resA T σ y).1 ∧ ∃ p q, toPair (resA T σ x).2 = some p ∧ toPair (resA T σ y).2 = some q ∧ aexit R σ (.tup [p, q])) : Q0 .ret σ := by
  obtain ⟨h1, h2, p, q, h3, h4, h5⟩ := g
  refine h.ret σ ⟨fun z hz => ?_, ?_⟩
  · rcases List.mem_cons.1 hz with rfl | hz
    · exact h1
    · rw [List.mem_singleton] at hz; subst hz; exact h2
  · simp only [List.mapM_cons, List.mapM_nil, h3, h4, Option.pure_def, Option.bind_eq_bind, Option.bind_some]
    exact h5
theorem f3 {x y z : ResultVar} {R : A → List B → Prop} {Q0 : AE → St → Prop} (h : Fn T [x, y, z] R Q0 := by assumption) (g : (resA T σ x).1 ∧ (resA T σ y).1 ∧ (resA T σ z).1 ∧ ∃ p q r, toPair (resA T σ x).2 = some p ∧ toPair (resA T σ y).2 = some q ∧ toPair (resA T σ z).2 = some r ∧ aexit R σ (.tup [p, q, r])) : Q0 .ret σ := by
  obtain ⟨h1, h2, h6, p, q, r, h3, h4, h7, h5⟩ := g
  refine h.ret σ ⟨fun u hu => ?_, ?_⟩
  · rcases List.mem_cons.1 hu with rfl | hu
    · exact h1
    · rcases List.mem_cons.1 hu with rfl | hu
      · exact h2
      · rw [List.mem_singleton] at hu; subst hu; exact h6
  · simp only [List.mapM_cons, List.mapM_nil, h3, h4, h7, Option.pure_def, Option.bind_eq_bind, Option.bind_some]
    exact h5
theorem enter (hmx : P.follows .mixedOrders = true) {f : FuncId} {fn : Func} {c : Code} {n : Nat} {rs : List ResultVar} {args : List A} {bx0 : List B} {R : A → List B → Prop} (hf : P.funcs[f]? = some fn) (hnt : fn.ntmps = n)
    (h : ∀ Q0, Fn (tyOf P) rs R Q0 → awp P (tyOf P) c Q0 (start n args bx0)) (hn : (fn.name == "runtime.NumGoroutine") = false := by kernel_rfl) (hb : fn.body = some c := by rfl) (hrs : fn.results.toList = rs := by rfl) : PC P f args bx0 R := by
  subst hnt hrs
  refine PC_enter (tyOf_ok P) hmx hf hn hb ?_
  exact h _ ⟨fun _ h => h, fun _ h => h⟩
end
end Go.Proofs.YthinpbnnpelhhaaGreatDoor.V
