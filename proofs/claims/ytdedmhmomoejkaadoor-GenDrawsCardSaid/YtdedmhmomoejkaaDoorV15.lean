import Derived.Test.YtdedmhmomoejkaaDoorV14
import Derived.Laws.BytesString
import Derived.Laws.RangeString
namespace Go.Proofs.YtdedmhmomoejkaaDoor.V
open Go Go.RowKit Go.Proofs.YtdedmhmomoejkaaDoorW.PrintLast
set_option linter.unusedVariables false
set_option linter.unusedSimpArgs false
--ALSO Derived.Laws.BytesString Derived.Laws.RangeString
section
variable {P : Program} {T : Ty} {ok0 : Nat → Prop} {μ0 ν : List Nat} {w0 : World}
theorem byte_rows : ∀ (ns : List (List L)), allByte ns → ∃ bs : List Int, ns = bs.map (fun b => [L.c (.v (.int .u8 b))])
  | [], _ => ⟨[], rfl⟩
  | e :: ns, h => by
    obtain ⟨b, rfl⟩ := h e List.mem_cons_self
    obtain ⟨bs, rfl⟩ := byte_rows ns (fun x hx => h x (List.mem_cons_of_mem _ hx))
    exact ⟨b :: bs, rfl⟩
theorem push_list (s : ByteArray) : ∀ (bs : List Int) (s : ByteArray), bs.foldl (fun r n => r.push (UInt8.ofNat n.toNat)) s = ⟨s.data ++ (bs.map fun b => UInt8.ofNat b.toNat).toArray⟩
  | [], s => by cases s; simp
  | b :: bs, s => by
    rw [List.foldl_cons, push_list s bs]
    cases s
    simp [ByteArray.push]
theorem conv_ok (hT : ∀ t i, T t = some i → TyOK P t i) {σ : St} {a : Act} {w : World} {s d : TypeId} {x : Operand} {k : A → St → Prop} (h : RelX ok0 μ0 w0 ν σ a w) (he : eConv T σ s d (strip (σ.ev x)) k) :
    ∃ r σ' v w', (convert s d (a.eval x)).run P w = .ok v w' ∧ RelA ok0 μ0 w0 ν σ' a w' r v ∧ k r σ' ∧ Below w.heap.size w w' := by
  obtain ⟨ok, hm, hR, hO⟩ := h
  have hx0 := SR.of (ev_ok hR x)
  unfold eConv at he
  split at he
  · rename_i e _ _ _ _ _ _ hTs hTd
    split at he
    · rename_i hTe
      split at he
      · rename_i g xl heq
        rw [heq] at hx0
        split at he
        · rename_i sz ns hrow
          obtain ⟨h1, rfl, h3, h4, h5⟩ := he
          have hx0 := hx0 h1
          obtain ⟨bs, rfl⟩ := byte_rows ns h4
          have hcell : allCell (bs.map fun b => [L.c (.v (.int .u8 b))]) := fun e he => by
            obtain ⟨b, _, rfl⟩ := List.mem_map.1 he
            rfl
          obtain ⟨news, hS, hn⟩ := src_ok hT hR.mem hx0 hrow (by omega) h3 hcell
          have hnl := hS.newsLen
          have hnews : news = bs.map (Value.int .u8) := by
            apply List.ext_getElem?
            intro i
            rw [List.getElem?_map]
            cases hb : bs[i]? with
            | none =>
              rw [List.getElem?_eq_none_iff] at hb
              rw [List.getElem?_eq_none (by rw [hnl, List.length_map]; omega)]
              rfl
            | some b =>
              obtain ⟨_, h7⟩ := hn i [L.c (.v (.int .u8 b))] (by rw [List.getElem?_map, hb]; rfl)
              obtain ⟨v, h8, h9⟩ := h7 0 _ rfl
              rw [Nat.mul_one, Nat.add_zero] at h8
              rw [h8]
              exact congrArg some h9
          have hsl : ∃ ad n cap, a.eval x = .slice ad n cap := by
            cases xl with
            | c y =>
              cases y with
              | v y => unfold srcOK at h3; rw [hTs] at h3; cases h3
              | sl n sz f => obtain ⟨ad, cap, hu, _⟩ := hx0; exact ⟨ad, n, cap, hu⟩
              | any => simp [rowOf] at hrow
            | own id sz o n => obtain ⟨gb, cap, cs, t, _, hu, _⟩ := hx0; exact ⟨_, n, cap, hu⟩
            | _ => simp [rowOf] at hrow
          obtain ⟨ad, n, cap, hu⟩ := hsl
          have hlen := hS.len w
          rw [hu] at hlen
          simp only [Builtin.lenOf, Sem.run_pure, Result.ok.injEq, and_true, List.length_map] at hlen
          subst hlen
          have htext : textOf (bs.map fun b => [L.c (.v (.int .u8 b))]) = bs.foldl (fun r n => r.push (UInt8.ofNat n.toNat)) ByteArray.empty := by
            rw [push_list ByteArray.empty]
            unfold textOf
            rw [List.map_map]
            congr 1
            show _ = #[] ++ _
            rw [Array.empty_append]
            rfl
          have hconv : (convert s d (a.eval x)).run P w = (Conv.bytesToString (a.eval x)).run P w := by
            rw [hu]
            simp only [convert, Sem.run_bind, run_under (slice_under hT hTs), run_under (prim_under hT hTd), run_under (prim_under hT hTe), Result.andThen_ok]
          have hrun : (convert s d (a.eval x)).run P w = .ok (.string (textOf (bs.map fun b => [L.c (.v (.int .u8 b))]))) w := by
            rw [hconv, hu, htext]
            cases ad with
            | none =>
              have hc := hS.cells
              rw [hu] at hc
              have hb0 : bs = [] := by
                rw [hnews] at hc
                cases bs with
                | nil => rfl
                | cons b bs => simp [Builtin.firstCells] at hc
              subst hb0
              rfl
            | some ad =>
              refine run_bytesToString w ad bs.length cap bs ?_
              have hc := hS.cells
              rw [hu, hnews] at hc
              simpa [Builtin.firstCells] using hc
          exact ⟨.str (textOf (bs.map fun b => [L.c (.v (.int .u8 b))])), σ, _, w, hrun, ⟨[], ok, hm, by rw [List.append_nil]; exact hR, by rw [List.append_nil]; exact hO, rfl⟩, h5, Below.refl _ _⟩
        · exact he.elim
      · exact he.elim
    · exact he.elim
  · exact he.elim
theorem range_ok (hT : ∀ t i, T t = some i → TyOK P t i) {σ : St} {a : Act} {w : World} {t : TypeId} {x : Operand} {k : A → St → Prop} (h : RelX ok0 μ0 w0 ν σ a w) (he : eRange T σ t (strip (σ.ev x)) k) :
    ∃ r σ' v w', (Instr.range t (a.eval x)).run P w = .ok v w' ∧ RelA ok0 μ0 w0 ν σ' a w' r v ∧ k r σ' ∧ Below w.heap.size w w' := by
  obtain ⟨ok, hm, hR, hO⟩ := _root_.id h
  have hx0 := SR.of (ev_ok hR x)
  unfold eRange at he
  split at he
  · rename_i g s hTs heq
    rw [heq] at hx0
    have hu : a.eval x = .string s := hx0 he.1
    have hrun : (Instr.range t (a.eval x)).run P w = .ok (.pointer (some ⟨w.heap.size, 0, none⟩)) (w.iter s 0) := by rw [hu]; exact run_range_string w t s (prim_under hT hTs)
    exact ⟨_, _, _, _, hrun, h.alloc (.stringIter s 0) (.iter s 0) (.one (.ptr σ.bx.length 0)) _ (fun μ ok hR hRL => ⟨World.iter_heap w s 0, fun hid => ⟨_, hid, rfl⟩⟩), he.2, below_alloc _ _⟩
  · exact he.elim
theorem eff_ok (hT : ∀ t i, T t = some i → TyOK P t i) {gr : Option (List Nat)} {σ : St} {a : Act} {w : World} {o : Oper} {k : A → St → Prop} {K : Act → World → Prop} {Q : Exit → Act → World → Prop} (h : RelX ok0 μ0 w0 ν σ a w) (he : eff P T gr o σ k)
    (hK : ∀ r σ' v w', RelA ok0 μ0 w0 ν σ' a w' r v → (∀ D, gr = some D → Fw (D.map fun i => (μ0 ++ ν).getD i 0) w w') → k r σ' → K (a.put o.dst v) w') : o.wp P a w K Q := by
  have hval : ∀ {s : Sem Value} {r : A} {σ' : St} {v : Value} {w' : World}, execOp a.eval o = (do pure (.value (← s)) : Sem Next) → s.run P w = .ok v w' → RelA ok0 μ0 w0 ν σ' a w' r v → (∀ D, gr = some D → Fw (D.map fun i => (μ0 ++ ν).getD i 0) w w') → k r σ' → o.wp P a w K Q := by
    intro s r σ' v w' h1 h2 h3 h5 h4
    exact wp_value (v := v) (w' := w') (by rw [h1]; simp [h2]) (hK _ _ _ _ h3 h5 h4)
  unfold eff at he
  split at he
  · rename_i t hop
    obtain ⟨h1, h2⟩ := he
    obtain ⟨v, w', h3, h4, h5⟩ := alloc_ok hT h1 h
    exact hval (s := Instr.alloc t true (.tuple #[])) (by unfold execOp; simp only [hop]) h3 h4 (fun _ _ => Fw.of _ h5) h2
  · rename_i t x hop
    obtain ⟨h1, h2, h3⟩ := he
    obtain ⟨v, w', h4, h5, h6⟩ := box_ok (P := P) (t := t) h1 h2 h
    exact hval (s := Instr.box t (a.eval x)) (by unfold execOp; simp only [hop]) h4 h5 (fun _ _ => Fw.of _ h6) h3
  · rename_i t x y hop
    obtain ⟨hg, he⟩ := he
    obtain ⟨σ', w', h1, h2, h3⟩ := store_ok hT h he
    refine wp_skip_ (w' := w') ?_ (hK _ _ _ _ h2 (fun D e => by rw [hg] at e; cases e) h3)
    unfold execOp
    simp [hop, h1]
  · rename_i f fs cs hop
    obtain ⟨rfl, he⟩ := he
    split at he
    · rename_i ids hm
      obtain ⟨ok, h0, hR, hO⟩ := h
      obtain ⟨gs, h1, h2, h3⟩ := fn_ok hR _ _ hm
      refine hval (s := Instr.makeFunc (.func f) #[] (cs.map a.eval)) (v := .func (.func f) #[] (cs.map a.eval)) (w' := w) (by unfold execOp; simp [hop]) (by simp [Instr.makeFunc]) ?_ (fun _ _ => Fw.refl _ _) he
      refine ⟨[], ok, h0, by rw [List.append_nil]; exact hR, by rw [List.append_nil]; exact hO, ?_⟩
      rw [List.append_nil]
      refine ⟨gs, h1, h2, ?_⟩
      have e : (cs.toList.map a.eval).toArray = cs.map a.eval := by rw [← Array.toList_inj]; simp
      rw [← h3, e]
    · exact he.elim
  · rename_i t x y hop
    obtain ⟨r, σ', v, w', h1, h2, h3, h4⟩ := make_ok hT h he
    exact hval (s := Instr.makeSlice t (a.eval x) (a.eval y)) (by unfold execOp; simp only [hop]) h1 h2 (fun _ _ => Fw.of _ h4) h3
  · rename_i t n ps hop
    obtain ⟨r, σ', v, w', h1, h2, h3, h4⟩ := lit_ok hT h he
    exact hval (by unfold execOp; rw [hop]) h1 h2 (fun _ _ => Fw.of _ h4) h3
  · rename_i s d x hop
    obtain ⟨r, σ', v, w', h1, h2, h3, h4⟩ := conv_ok hT h he
    exact hval (s := convert s d (a.eval x)) (by unfold execOp; simp only [hop]) h1 h2 (fun _ _ => Fw.of _ h4) h3
  · rename_i t x hop
    obtain ⟨r, σ', v, w', h1, h2, h3, h4⟩ := range_ok hT h he
    exact hval (s := Instr.range t (a.eval x)) (by unfold execOp; simp only [hop]) h1 h2 (fun _ _ => Fw.of _ h4) h3
  · rename_i x hop
    obtain ⟨hg, he⟩ := he
    obtain ⟨r, σ', v, w', h1, h2, h3⟩ := next_ok (ty := o.type) h he
    exact hval (s := Instr.next (a.eval x) true o.type) (by unfold execOp; simp only [hop]) h1 h2 (fun D e => by rw [hg] at e; cases e) h3
  · rename_i xs ts hop
    obtain ⟨hg, he⟩ := he
    split at he
    · rename_i s x t t' hxs hts
      obtain ⟨r, σ', v, w', h1, h2, h3⟩ := append_ok (ty := o.type) hT h he
      have exs : xs = #[s, x] := by rw [← Array.toList_inj]; exact hxs
      have ets : ts = #[t, t'] := by rw [← Array.toList_inj]; exact hts
      subst exs
      subst ets
      refine hval (s := Builtin.append_ #[t, t'] o.type #[a.eval s, a.eval x]) ?_ h1 h2 (fun D e => by rw [hg] at e; cases e) h3
      unfold execOp
      simp [hop, resolve, invoke, builtin]
    · exact he.elim
  · rename_i f xs ts hop
    split at he
    · rename_i g caps hg
      obtain ⟨h1, lids, h2, h3, h4, h5⟩ := he
      exact call_ok hop h hg h1 h2 h3 h4 h5 hK
    · exact he.elim
  · exact he.elim
end
end Go.Proofs.YtdedmhmomoejkaaDoor.V
