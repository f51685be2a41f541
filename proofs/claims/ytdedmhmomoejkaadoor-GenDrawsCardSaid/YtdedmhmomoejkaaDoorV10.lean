import Derived.Test.YtdedmhmomoejkaaDoorV9
import Derived.Deep.AppendSrc
namespace Go.Proofs.YtdedmhmomoejkaaDoor.V
open Go Go.RowKit Go.Proofs.YtdedmhmomoejkaaDoorW.PrintLast
set_option linter.unusedVariables false
set_option linter.unusedSimpArgs false
--ALSO Derived.Deep.AppendSrc
section
variable {P : Program} {T : Ty} {ok0 : Nat → Prop} {μ0 : List Nat} {w0 : World}
/-- The cells of a row, one behind the other. -/
def cellsAt (w : World) (a : Addr) (n : Nat) : List Value := (List.range n).map fun q => (w.cell? (a.add q)).getD undef
theorem cellsAt_len (w : World) (a : Addr) (n : Nat) : (cellsAt w a n).length = n := by simp [cellsAt]
theorem rowList_at {m sz : Nat} {f : Nat → Nat → C} {i : Nat} {e : List L} (h : (rowList m sz f)[i]? = some e) : i < m ∧ e.length = sz ∧ ∀ (j : Nat) x, e[j]? = some x → j < sz ∧ x = .c (f i j) := by
  unfold rowList at h
  rw [List.getElem?_map] at h
  by_cases hi : i < m
  · rw [List.getElem?_range hi] at h
    simp only [Option.map_some, Option.some.injEq] at h
    subst h
    refine ⟨hi, by simp, fun j x hj => ?_⟩
    rw [List.getElem?_map] at hj
    by_cases hjl : j < sz
    · rw [List.getElem?_range hjl] at hj
      exact ⟨hjl, by simpa using hj.symm⟩
    · rw [List.getElem?_eq_none (by simp; omega)] at hj
      simp at hj
  · rw [List.getElem?_eq_none (by simp; omega)] at h
    simp at h
theorem rowList_len (m sz : Nat) (f : Nat → Nat → C) : (rowList m sz f).length = m := by simp [rowList]
/-- Cells that lie at an address, and how they are told. -/
theorem cells_told {μ : List Nat} {ok : Nat → Prop} {w : World} {a : Addr} {m sz : Nat} {ns : List (List L)} (hl : ns.length = m) (hs : 0 < sz)
    (h : ∀ (i : Nat) e, ns[i]? = some e → e.length = sz ∧ ∀ (j : Nat) x, e[j]? = some x → ∃ v, w.cell? (a.add (i * sz + j)) = some v ∧ RL μ ok w x v) (hc : allCell ns) :
    (∀ j u, (cellsAt w a (m * sz))[j]? = some u → w.cell? (a.add j) = some u) ∧ (∀ u, u ∈ cellsAt w a (m * sz) → u.oneCell' = true) ∧ (∀ (i : Nat) e, ns[i]? = some e → e.length = sz ∧ ∀ (j : Nat) x, e[j]? = some x → ∃ v, (cellsAt w a (m * sz))[i * sz + j]? = some v ∧ RL μ ok w x v) := by
  have get : ∀ q, q < m * sz → ∃ v x, (cellsAt w a (m * sz))[q]? = some v ∧ w.cell? (a.add q) = some v ∧ RL μ ok w x v ∧ lcell x = true := by
    intro q hq
    have h1 : q / sz < ns.length := by rw [hl]; exact (Nat.div_lt_iff_lt_mul hs).2 hq
    have he : ns[q / sz]? = some (ns[q / sz]'h1) := List.getElem?_eq_getElem h1
    obtain ⟨h2, h3⟩ := h _ _ he
    have h4 : q % sz < (ns[q / sz]'h1).length := by rw [h2]; exact Nat.mod_lt _ hs
    obtain ⟨v, hv, hr⟩ := h3 (q % sz) _ (List.getElem?_eq_getElem h4)
    rw [Nat.mul_comm, Nat.div_add_mod] at hv
    exact ⟨v, _, by simp [cellsAt, List.getElem?_map, List.getElem?_range hq, hv], hv, hr, List.all_eq_true.1 (hc _ (List.getElem_mem h1)) _ (List.getElem_mem h4)⟩
  refine ⟨fun j u hj => ?_, fun u hu => ?_, fun i e he => ⟨(h i e he).1, fun j x hj => ?_⟩⟩
  · have hjl : j < m * sz := by have := (List.getElem?_eq_some_iff.1 hj).1; rwa [cellsAt_len] at this
    obtain ⟨v, x, h1, h2, _⟩ := get j hjl
    rw [hj] at h1
    rw [h2, ← h1]
  · obtain ⟨j, hj⟩ := List.getElem?_of_mem hu
    have hjl : j < m * sz := by have := (List.getElem?_eq_some_iff.1 hj).1; rwa [cellsAt_len] at this
    obtain ⟨v, x, h1, _, h3, h4⟩ := get j hjl
    rw [hj] at h1
    obtain rfl : u = v := by simpa using h1
    exact lcell_one h3 h4
  · obtain ⟨h1, h2⟩ := h i e he
    obtain ⟨v, hv, hr⟩ := h2 j x hj
    refine ⟨v, ?_, hr⟩
    have hi : i < m := by rw [← hl]; exact at_in he
    have hjl : j < sz := by rw [← h1]; exact at_in hj
    have hq : i * sz + j < m * sz := by
      have : (i + 1) * sz ≤ m * sz := Nat.mul_le_mul_right _ hi
      rw [Nat.add_mul] at this
      omega
    simp [cellsAt, List.getElem?_map, List.getElem?_range hq, hv]
/-- What is appended. -/
theorem src_ok (hT : ∀ t i, T t = some i → TyOK P t i) {μ : List Nat} {ok : Nat → Prop} {bx : List B} {w : World} {l : L} {u : Value} {sz : Nat} {ns : List (List L)} {tx : TypeId} (hm : Mem μ ok bx w) (h : RL μ ok w l u) (hr : rowOf bx l = some (sz, ns)) (hs : 0 < sz) (hk : srcOK T tx l = true) (hc : allCell ns) :
    ∃ news, Src P sz tx u ns.length news w ∧ ∀ (i : Nat) e, ns[i]? = some e → e.length = sz ∧ ∀ (j : Nat) x, e[j]? = some x → ∃ v, news[i * sz + j]? = some v ∧ RL μ ok w x v := by
  have ofRow : ∀ (a : Addr) (c m : Nat), u = .slice (some a) m c → ns.length = m → (∃ e', P.underlying tx = some (.slice e')) → (∀ (i : Nat) e, ns[i]? = some e → e.length = sz ∧ ∀ (j : Nat) x, e[j]? = some x → ∃ v, w.cell? (a.add (i * sz + j)) = some v ∧ RL μ ok w x v) →
      ∃ news, Src P sz tx u ns.length news w ∧ ∀ (i : Nat) e, ns[i]? = some e → e.length = sz ∧ ∀ (j : Nat) x, e[j]? = some x → ∃ v, news[i * sz + j]? = some v ∧ RL μ ok w x v := by
    intro a c m hu hl ⟨e', he'⟩ hcs
    obtain ⟨h1, h2, h3⟩ := cells_told hl hs hcs hc
    exact ⟨cellsAt w a (m * sz), by rw [hu, hl]; exact Src.ofSlice w he' a m c _ (cellsAt_len _ _ _) h1 h2, h3⟩
  have hsl : (∀ s, l ≠ .c (.v s)) → ∃ e', P.underlying tx = some (.slice e') := by
    intro hne
    unfold srcOK at hk
    split at hk
    · cases hk
    · rename_i e' _ _ _ hTs _; exact ⟨e', slice_under hT hTs⟩
    · rename_i s _; exact absurd rfl (hne _)
    · cases hk
  cases l with
  | c x =>
    cases x with
    | v x =>
      cases x with
      | string s =>
        simp only [rowOf, Option.some.injEq, Prod.mk.injEq] at hr
        obtain ⟨rfl, rfl⟩ := hr
        have hu : u = .string s := h
        have hkt : P.underlying tx = some .string := by
          unfold srcOK at hk
          split at hk
          · cases hk
          · rename_i hn; exact absurd rfl (hn _)
          · rename_i hTs _; exact prim_under hT hTs
          · cases hk
        have hl : (bytesL s).length = s.size := by unfold bytesL; rw [List.length_map, Array.length_toList]; rfl
        refine ⟨byteCells s, by rw [hu, hl]; exact Src.ofString w hkt s, fun i e he => ?_⟩
        unfold bytesL at he
        rw [List.getElem?_map] at he
        cases hq : s.data.toList[i]? with
        | none => rw [hq] at he; simp at he
        | some b =>
          rw [hq] at he
          obtain rfl : [L.c (.v (.int .u8 (b.toNat : Int)))] = e := by simpa using he
          refine ⟨rfl, fun j x hj => ?_⟩
          cases j with
          | zero =>
            obtain rfl : L.c (.v (.int .u8 (b.toNat : Int))) = x := by simpa using hj
            exact ⟨.int .u8 b.toNat, by unfold byteCells; rw [Nat.mul_one, Nat.add_zero, List.getElem?_map, hq]; rfl, rfl⟩
          | succ j => simp at hj
      | _ => simp [rowOf] at hr
    | sl n sz' f =>
      simp only [rowOf, Option.some.injEq, Prod.mk.injEq] at hr
      obtain ⟨rfl, rfl⟩ := hr
      obtain ⟨a, cap, hu, _, hcl⟩ := h
      obtain ⟨e', he'⟩ := hsl (fun s e => by cases e)
      cases a with
      | none =>
        have hn0 : n = 0 := by
          rcases Nat.eq_zero_or_pos n with h0 | h0
          · exact h0
          · obtain ⟨b, v, hb, _⟩ := hcl 0 h0 0 hs
            cases hb
        subst hn0
        refine ⟨[], by rw [hu, rowList_len]; exact Src.ofNil w he' cap, fun i e he => ?_⟩
        have := (rowList_at he).1
        omega
      | some a =>
        refine ofRow a cap n hu (rowList_len _ _ _) ⟨e', he'⟩ (fun i e he => ?_)
        obtain ⟨h1, h2, h3⟩ := rowList_at he
        refine ⟨h2, fun j x hj => ?_⟩
        obtain ⟨h4, rfl⟩ := h3 j x hj
        obtain ⟨b, v, hb, _, hv, hr⟩ := hcl i h1 j h4
        obtain rfl : a = b := by injection hb
        exact ⟨v, hv, hr⟩
    | any => simp [rowOf] at hr
  | own id sz' o n =>
    simp only [rowOf] at hr
    split at hr
    · rename_i es sz'' t' hb
      split at hr
      · rename_i hcond
        obtain ⟨h5, h6⟩ := hcond
        subst h5
        simp only [Option.some.injEq, Prod.mk.injEq] at hr
        obtain ⟨rfl, rfl⟩ := hr
        obtain ⟨g, cap, cs, t, hg, hu, _, hh, _⟩ := h
        obtain ⟨cs2, cap2, hh2, _, _, _, hel⟩ := hm.box id _ g hb hg
        refine ofRow _ cap n hu (by rw [List.length_take, List.length_drop]; omega) (hsl (fun s e => by cases e)) (fun i e he => ?_)
        rw [List.getElem?_take] at he
        split at he
        · rw [List.getElem?_drop] at he
          obtain ⟨h7, h8⟩ := hel _ e he
          refine ⟨h7, fun j x hj => ?_⟩
          obtain ⟨v, hv, hr⟩ := h8 j x hj
          refine ⟨v, ?_, hr⟩
          rw [add_lit, ← Nat.add_assoc, ← Nat.add_mul]
          simp only [World.cell?, hh2]
          simpa using hv
        · cases he
      · cases hr
    · cases hr
  | _ => simp [rowOf] at hr
theorem run_append_room' {w : World} (t tx ty e : TypeId) (i : TypeInfo) (ht : P.underlying t = some (.slice e)) (hi : P.info? e = some i) (g sLen sCap : Nat) (cur : Array Value) (hg : w.heap[g]? = some (.cells cur e (0, 0))) (x : Value) (n : Nat) (news : List Value) (hs : Src P i.size tx x n news w)
    (hroom : sLen + n ≤ sCap) (hfit : sLen * i.size + news.length ≤ cur.size) :
    (Builtin.append_ #[t, tx] ty #[.slice (some ⟨g, 0, none⟩) sLen sCap, x]).run P w =
      .ok (.slice (some ⟨g, 0, none⟩) (sLen + n) sCap) (w.setRow g (cur.toList.take (sLen * i.size) ++ news ++ cur.toList.drop (sLen * i.size + news.length)).toArray) := by
  have hst := run_storeCells_at P g (sLen * i.size) e news 0 cur w hg (by simpa using hfit) hs.one
  simp only [Nat.add_zero] at hst
  rcases hs.kind with ⟨e', hk⟩ | hk <;> simp [Builtin.append_, run_underlying ht, run_underlying hk, sizeOf, typeInfo, hi, hs.len, hroom, hs.cells, Addr.add_lit, hst]
theorem drew_alloc_heap (w : World) (o : Obj) : (w.drew.alloc o).heap[w.heap.size]? = some o := heap_alloc_new w.drew o
theorem below_drew_alloc (w : World) (o : Obj) : Below w.heap.size w (w.drew.alloc o) := ((Below.refl _ w).drew).alloc (Nat.le_refl _) o
/-- Behind the elements that were there, and the new ones, whatever. -/
theorem arr_cells {R : L → Value → Prop} {es ns : List (List L)} {n m sz : Nat} {olds news rest : List Value} (hn : n ≤ es.length) (hm : ns.length = m) (ho : olds.length = n * sz) (hl : news.length = m * sz)
    (hes : ∀ (i : Nat) e, i < n → es[i]? = some e → e.length = sz ∧ ∀ (j : Nat) x, e[j]? = some x → ∃ v, olds[i * sz + j]? = some v ∧ R x v)
    (hnew : ∀ (i : Nat) e, ns[i]? = some e → e.length = sz ∧ ∀ (j : Nat) x, e[j]? = some x → ∃ v, news[i * sz + j]? = some v ∧ R x v) :
    ∀ (i : Nat) e, (es.take n ++ ns)[i]? = some e → e.length = sz ∧ ∀ (j : Nat) x, e[j]? = some x → ∃ v, ((olds ++ news ++ rest).toArray)[i * sz + j]? = some v ∧ R x v := by
  intro i e hi
  have htl : (es.take n).length = n := by rw [List.length_take]; omega
  rw [List.getElem?_append, htl] at hi
  split at hi
  · rename_i hlt
    rw [List.getElem?_take, if_pos hlt] at hi
    obtain ⟨h1, h2⟩ := hes i e hlt hi
    refine ⟨h1, fun j x hj => ?_⟩
    obtain ⟨v, h3, h4⟩ := h2 j x hj
    refine ⟨v, ?_, h4⟩
    have hol := (List.getElem?_eq_some_iff.1 h3).1
    rw [List.getElem?_toArray, List.append_assoc, List.getElem?_append_left hol]
    exact h3
  · rename_i hge
    obtain ⟨h2, h3⟩ := hnew _ e hi
    refine ⟨h2, fun j x hj => ?_⟩
    obtain ⟨v, h5, h6⟩ := h3 j x hj
    refine ⟨v, ?_, h6⟩
    have hnl := (List.getElem?_eq_some_iff.1 h5).1
    have e1 : i * sz = n * sz + (i - n) * sz := by rw [← Nat.add_mul]; congr 1; omega
    rw [List.getElem?_toArray, List.append_assoc, List.getElem?_append_right (by omega), List.getElem?_append_left (by omega), ho]
    rw [show i * sz + j - n * sz = (i - n) * sz + j by omega]
    exact h5
end
end Go.Proofs.YtdedmhmomoejkaaDoor.V
