import Derived.Test.YtdedmhmomoejkaaDoorV7
import Derived.Lib.OthersKept
namespace Go.Proofs.YtdedmhmomoejkaaDoor.V
open Go Go.RowKit Go.Proofs.YtdedmhmomoejkaaDoorW.PrintLast
set_option linter.unusedVariables false
set_option linter.unusedSimpArgs false
--ALSO Derived.Lib.OthersKept
section
variable {P : Program} {T : Ty} {ok0 : Nat → Prop} {μ0 ν : List Nat} {w0 : World}
theorem wp_value {o : Oper} {a : Act} {w w' : World} {v : Value} {K : Act → World → Prop} {Q : Exit → Act → World → Prop} (h : (execOp a.eval o).run P w = .ok (.value v) w') (hk : K (a.put o.dst v) w') : o.wp P a w K Q := by
  unfold Oper.wp
  rw [h, Oper.upon_value]
  exact hk
theorem wp_skip_ {o : Oper} {a : Act} {w w' : World} {K : Act → World → Prop} {Q : Exit → Act → World → Prop} (h : (execOp a.eval o).run P w = .ok .skip w') (hk : K (a.put o.dst undef) w') : o.wp P a w K Q := by
  unfold Oper.wp
  rw [h, Oper.upon_skip]
  exact hk
theorem Rl.new {μ : List Nat} {ok : Nat → Prop} {σ : St} {a : Act} {w w' : World} (h : Rl μ ok σ a w) (hB : Below w.heap.size w w') (hs : w.heap.size < w'.heap.size) (b : B)
    (hb : (∀ l u, RL μ ok w l u → RL (μ ++ [w.heap.size]) ok w' l u) → BoxR (μ ++ [w.heap.size]) ok w' w.heap.size b) :
    Rl (μ ++ [w.heap.size]) ok { σ with bx := σ.bx ++ [b] } a w' ∧ (μ ++ [w.heap.size])[σ.bx.length]? = some w.heap.size := by
  have hm := Mem_below h.mem hB
  have hRL : ∀ l u, RL μ ok w l u → RL (μ ++ [w.heap.size]) ok w' l u := fun l u hl => RL_weak _ (RL_below h.mem hB hl)
  refine ⟨⟨Mem_add hm (fun i b' h1 h2 h3 => Nat.lt_irrefl _ (h.mem.there _ (List.mem_of_getElem? h3))) (fun hk => Nat.lt_irrefl _ (h.mem.small _ hk)) hs (hb hRL), h.nt, fun t => RA_mono hRL _ _ (h.tm t), h.df⟩, ?_⟩
  rw [List.getElem?_append_right (by rw [h.mem.len]; exact Nat.le_refl _), h.mem.len]
  simp
theorem RelX.new {σ : St} {a : Act} {w w' : World} (h : RelX ok0 μ0 w0 ν σ a w) (hB : Below w.heap.size w w') (hs : w.heap.size < w'.heap.size) (b : B) (r : A) (v : Value)
    (hb : ∀ μ ok, Rl μ ok σ a w → (∀ l u, RL μ ok w l u → RL (μ ++ [w.heap.size]) ok w' l u) →
      BoxR (μ ++ [w.heap.size]) ok w' w.heap.size b ∧ ((μ ++ [w.heap.size])[σ.bx.length]? = some w.heap.size → RA (RL (μ ++ [w.heap.size]) ok w') r v)) :
    RelA ok0 μ0 w0 ν { σ with bx := σ.bx ++ [b] } a w' r v := by
  obtain ⟨ok, h0, h1, h2⟩ := h
  have hRL : ∀ l u, RL (μ0 ++ ν) ok w l u → RL ((μ0 ++ ν) ++ [w.heap.size]) ok w' l u := fun l u hl => RL_weak _ (RL_below h1.mem hB hl)
  obtain ⟨h6, h7⟩ := h1.new hB hs b (fun x => (hb _ ok h1 x).1)
  rw [List.append_assoc] at h6
  refine ⟨[w.heap.size], ok, h0, h6, (h2.below hB).add (.inl h2.fw.size), ?_⟩
  have := (hb _ ok h1 hRL).2 h7
  rwa [List.append_assoc] at this
theorem below_alloc (w : World) (o : Obj) : Below w.heap.size w (w.alloc o) := (Below.refl _ _).alloc (Nat.le_refl _) _
theorem RelX.alloc {σ : St} {a : Act} {w : World} (h : RelX ok0 μ0 w0 ν σ a w) (o : Obj) (b : B) (r : A) (v : Value)
    (hb : ∀ μ ok, Rl μ ok σ a w → (∀ l u, RL μ ok w l u → RL (μ ++ [w.heap.size]) ok (w.alloc o) l u) →
      BoxR (μ ++ [w.heap.size]) ok (w.alloc o) w.heap.size b ∧ ((μ ++ [w.heap.size])[σ.bx.length]? = some w.heap.size → RA (RL (μ ++ [w.heap.size]) ok (w.alloc o)) r v)) :
    RelA ok0 μ0 w0 ν { σ with bx := σ.bx ++ [b] } a (w.alloc o) r v := h.new (below_alloc w o) (by simp [World.size_alloc]) b r v hb
theorem ev_strip {μ : List Nat} {ok : Nat → Prop} {σ : St} {a : Act} {w : World} (h : Rl μ ok σ a w) (x : Operand) (hs : (strip (σ.ev x)).1 = true) : RA (RL μ ok w) (strip (σ.ev x)).2 (a.eval x) := RA_strip _ _ (ev_ok h x) hs
theorem alloc_ok (hT : ∀ t i, T t = some i → TyOK P t i) {σ : St} {a : Act} {w : World} {t : TypeId} (hk : T.known t = true) (h : RelX ok0 μ0 w0 ν σ a w) :
    ∃ v w', (Instr.alloc t true (.tuple #[])).run P w = .ok v w' ∧ RelA ok0 μ0 w0 ν { σ with bx := σ.bx ++ [.var (zeroL T t) t] } a w' (.one (.ptr σ.bx.length 0)) v ∧ Below w.heap.size w w' := by
  obtain ⟨i, hi, _⟩ := known_some hk
  obtain ⟨z, hz, hzl⟩ := run_zero (w := w) (hT _ _ hi)
  refine ⟨.pointer (some ⟨w.heap.size, 0, none⟩), w.alloc (.cells z.cells t), ?_, ?_, (Below.refl _ _).alloc (Nat.le_refl _) _⟩
  · simp [Instr.alloc, hz, newVar, newRow]
  · refine h.alloc (.cells z.cells t) _ _ _ (fun μ ok _ _ => ⟨⟨z.cells, heap_alloc_new w _, ?_⟩, fun hid => ⟨_, hid, rfl⟩⟩)
    unfold zeroL
    rw [hi]
    simp only
    rw [← hzl]
    exact RLs.vals _
theorem box_ok {σ : St} {a : Act} {w : World} {t : TypeId} {x : Operand} (hs : (strip (σ.ev x)).1 = true) (hw : whole (strip (σ.ev x)).2 = true) (h : RelX ok0 μ0 w0 ν σ a w) :
    ∃ v w', (Instr.box t (a.eval x)).run P w = .ok v w' ∧ RelA ok0 μ0 w0 ν { σ with bx := σ.bx ++ [.var (leaves (strip (σ.ev x)).2) t] } a w' (.one (.ptr σ.bx.length 0)) v ∧ Below w.heap.size w w' := by
  refine ⟨.pointer (some ⟨w.heap.size, 0, none⟩), w.alloc (.cells (a.eval x).cells t), by simp [Instr.box, newVar, newRow], ?_, (Below.refl _ _).alloc (Nat.le_refl _) _⟩
  refine h.alloc (.cells (a.eval x).cells t) _ _ _ (fun μ ok hR hRL => ⟨⟨(a.eval x).cells, heap_alloc_new w _, ?_⟩, fun hid => ⟨_, hid, rfl⟩⟩)
  exact (leaves_ok (ev_strip hR x hs) hw).mono hRL
theorem setRow_size (w : World) (g : Nat) (cs : Array Value) : (w.setRow g cs).heap.size = w.heap.size := by simp [World.setRow]
theorem at_in' {w : World} {g : Nat} {o : Obj} (h : w.heap[g]? = some o) : g < w.heap.size := (Array.getElem?_eq_some_iff.1 h).1
theorem Fw.setRow {w : World} {μ : List Nat} {g : Nat} (hg : g ∈ μ) {cs cs' : Array Value} {t : TypeId} (hc : w.heap[g]? = some (.cells cs t (0, 0))) (hs : cs'.size = cs.size) : Fw μ w (w.setRow g cs') :=
  ⟨rfl, rfl, rfl, by rw [setRow_size]; exact Nat.le_refl _, fun k _ hk => setRow_other w g k cs' (fun e => hk (e ▸ hg)), fun k _ ds t' hd => by
    by_cases e : k = g
    · subst e
      rw [hc] at hd
      simp only [Option.some.injEq, Obj.cells.injEq] at hd
      obtain ⟨rfl, rfl, _⟩ := hd
      exact ⟨cs', setRow_heap w k cs cs' t (0, 0) hc, hs⟩
    · exact ⟨ds, by rw [setRow_other w g k cs' e]; exact hd, rfl⟩⟩
/-- A block turned in place. -/
theorem RelX.turn {σ : St} {a : Act} {w w' : World} (h : RelX ok0 μ0 w0 ν σ a w) {i : Nat} {b0 b : B} (h0 : σ.bx[i]? = some b0) (hn : b0 ≠ .hid) {g : Nat} (hF : Fw [g] w w') (hw : ∀ k, k ≠ g → w'.heap[k]? = w.heap[k]?) (hsize : w'.heap.size = w.heap.size)
    (hgs : g < w.heap.size) (hg : ∀ μ ok, Rl μ ok σ a w → μ[i]? = some g) (r : A) (v : Value) (hb : ∀ μ ok, Rl μ ok σ a w → (∀ l u, RL μ ok w l u → RL μ ok w' l u) → BoxR μ ok w' g b ∧ RA (RL μ ok w') r v) :
    RelA ok0 μ0 w0 ν { σ with bx := σ.bx.set i b } a w' r v := by
  obtain ⟨ok, h1, hR, hO⟩ := h
  have hgi := hg _ _ hR
  have hgk : ∀ k, ok k → k ≠ g := fun k hk e => by subst e; exact hR.mem.live i b0 k h0 hgi hn hk
  obtain ⟨h2, h3⟩ := Mem_set (w' := w') hR.mem h0 hn hgi (fun ds t' hd => hF.kept g hgs ds t' hd) hw hsize (fun hRL => (hb _ _ hR hRL).1)
  refine ⟨[], ok, h1, ?_, ?_, ?_⟩
  · rw [List.append_nil]; exact ⟨h2, hR.nt, fun t => RA_mono h3 _ _ (hR.tm t), hR.df⟩
  · rw [List.append_nil]
    refine hO.step ⟨hF.os, hF.tape, hF.output, hF.size, fun k hk hm => hF.block k hk (fun e => hm ?_), hF.kept⟩
    rw [List.mem_singleton] at e
    subst e
    exact List.mem_of_getElem? hgi
  · rw [List.append_nil]; exact (hb _ _ hR h3).2
/-- A row of cells turned in place. -/
theorem RelX.row {σ : St} {a : Act} {w : World} (h : RelX ok0 μ0 w0 ν σ a w) {i : Nat} {b0 b : B} {cs' : Array Value} (h0 : σ.bx[i]? = some b0) (hn : b0 ≠ .hid)
    {g : Nat} {cs : Array Value} {t : TypeId} (hc : w.heap[g]? = some (.cells cs t (0, 0))) (hsz : cs'.size = cs.size)
    (hg : ∀ μ ok, Rl μ ok σ a w → μ[i]? = some g) (hb : ∀ μ ok, Rl μ ok σ a w → (∀ l u, RL μ ok w l u → RL μ ok (w.setRow g cs') l u) → BoxR μ ok (w.setRow g cs') g b) :
    RelA ok0 μ0 w0 ν { σ with bx := σ.bx.set i b } a (w.setRow g cs') .junk undef :=
  h.turn h0 hn (Fw.setRow (List.mem_singleton.2 rfl) hc hsz) (fun k hk => setRow_other w g k cs' hk) (setRow_size _ _ _) (at_in' hc) hg .junk undef (fun μ ok hR hRL => ⟨hb μ ok hR hRL, trivial⟩)
theorem storeVar_ok {t : TypeId} {i : TI} (h : TyOK P t i) {w : World} {g off : Nat} {cs : Array Value} {t' : TypeId} (hg : w.heap[g]? = some (.cells cs t' (0, 0))) (v : Value) (hv : v.cells.size = i.size) (hl : off + i.size ≤ cs.size) (h1 : ∀ u, u ∈ v.cells.toList → u.oneCell' = true) :
    (storeVar t ⟨g, off, none⟩ v).run P w = .ok () (w.setRow g (cs.toList.take off ++ v.cells.toList ++ cs.toList.drop (off + v.cells.size)).toArray) := by
  have hlen : v.cells.toList.length = v.cells.size := Array.length_toList
  have := run_storeCells_at P g off t' v.cells.toList 0 cs w hg (by omega) h1
  simp only [Nat.add_zero] at this
  rw [hlen] at this
  rw [hv] at this ⊢
  simp [storeVar, run_size h, hv, this]
theorem lcells_one {μ : List Nat} {ok : Nat → Prop} {w : World} {ls : List L} {cs : List Value} (h : RLs (RL μ ok w) ls cs) (hl : ls.all lcell = true) : ∀ u, u ∈ cs → u.oneCell' = true := by
  intro u hu
  obtain ⟨j, hj⟩ := List.getElem?_of_mem hu
  have hlt : j < ls.length := by rw [h.1]; exact (List.getElem?_eq_some_iff.1 hj).1
  obtain ⟨v, h1, h2⟩ := h.2 j _ (List.getElem?_eq_getElem hlt)
  rw [hj] at h1
  obtain rfl : u = v := by simpa using h1
  exact lcell_one h2 (List.all_eq_true.1 hl _ (List.getElem_mem hlt))
theorem store_ok (hT : ∀ t i, T t = some i → TyOK P t i) {σ : St} {a : Act} {w : World} {t : TypeId} {x y : Operand} {k : A → St → Prop} (h : RelX ok0 μ0 w0 ν σ a w) (he : eStore T σ t (strip (σ.ev x)) (strip (σ.ev y)) k) :
    ∃ σ' w', (Instr.storeAt t (a.eval x) (a.eval y)).run P w = .ok () w' ∧ RelA ok0 μ0 w0 ν σ' a w' .junk undef ∧ k .junk σ' := by
  obtain ⟨ok, hm, hR, hO⟩ := _root_.id h
  have hx := SR.of (ev_ok hR x)
  unfold eStore at he
  split at he
  · rename_i g id off heq
    split at he
    · rename_i ls t' hb
      obtain ⟨h1, h2, h3, h4, h5, h6, h7, h8⟩ := he
      rw [heq] at hx
      obtain ⟨gb, hg, hu⟩ := hx h1
      obtain ⟨i, hi, hs⟩ := known_some h4
      obtain ⟨cs, hc, hr⟩ := hR.mem.box id _ gb hb hg
      have hlv := leaves_ok (ev_strip hR y h2) h3
      have hvs : (a.eval y).cells.size = i.size := by
        have h8 := hlv.1
        have h9 : (a.eval y).cells.toList.length = (a.eval y).cells.size := Array.length_toList
        omega
      have hcs : cs.toList.length = cs.size := Array.length_toList
      have hll := hr.1
      have hst := storeVar_ok (P := P) (off := off) (hT _ _ hi) hc (a.eval y) hvs (by omega) (lcells_one hlv h6)
      have hsz : (cs.toList.take off ++ (a.eval y).cells.toList ++ cs.toList.drop (off + (a.eval y).cells.size)).toArray.size = cs.size := by
        simp only [List.size_toArray, List.length_append, List.length_take, List.length_drop, Array.length_toList]
        omega
      refine ⟨_, w.setRow gb (cs.toList.take off ++ (a.eval y).cells.toList ++ cs.toList.drop (off + (a.eval y).cells.size)).toArray, ?_, h.row (b := .var (setLs ls off (leaves (strip (σ.ev y)).2)) t') hb (by simp) hc hsz (fun μ ok2 hR2 => ?_) (fun μ ok2 hR2 hRL => ⟨_, setRow_heap w gb cs _ t' (0, 0) hc, ?_⟩), h8⟩
      · rw [hu]
        simp only [Instr.storeAt, Instr.sureAddr, Sem.run_bind, Sem.run_pure, Result.andThen_ok, hst]
      · have hx2 := SR.of (ev_ok hR2 x)
        rw [heq] at hx2
        obtain ⟨gb2, hg2, hu2⟩ := hx2 h1
        rw [hu] at hu2
        obtain rfl : gb = gb2 := by simpa using hu2
        exact hg2
      · have hx2 := SR.of (ev_ok hR2 x)
        rw [heq] at hx2
        obtain ⟨gb2, hg2, hu2⟩ := hx2 h1
        rw [hu] at hu2
        obtain rfl : gb = gb2 := by simpa using hu2
        obtain ⟨cs2, hc2, hr2⟩ := hR2.mem.box id _ gb hb hg2
        rw [hc] at hc2
        simp only [Option.some.injEq, Obj.cells.injEq] at hc2
        obtain ⟨rfl, _⟩ := hc2
        have hlv2 := leaves_ok (ev_strip hR2 y h2) h3
        have hsl : (leaves (strip (σ.ev y)).2).length = (a.eval y).cells.size := by omega
        unfold setLs
        rw [hsl]
        exact (RLs.append (RLs.append (hr2.take off) hlv2) (hr2.drop _)).mono hRL
    · exact he.elim
  · rename_i g id sz k' off heq
    split at he
    · rename_i es sz' t' hb
      obtain ⟨h1, h2, h3, h4, h5, h6, h7, h9, h10, h8⟩ := he
      subst h7
      rw [heq] at hx
      obtain ⟨gb, hg, hu⟩ := hx h1
      obtain ⟨i, hi, hs⟩ := known_some h4
      obtain ⟨cs, cap, hc, hsz, hcap, hmx, hel⟩ := hR.mem.box id _ gb hb hg
      have hlv := leaves_ok (ev_strip hR y h2) h3
      have hvs : (a.eval y).cells.size = i.size := by
        have h8 := hlv.1
        have h9 : (a.eval y).cells.toList.length = (a.eval y).cells.size := Array.length_toList
        omega
      have hfit : k' * sz + off + i.size ≤ cs.size := by
        have : (k' + 1) * sz ≤ cap * sz := Nat.mul_le_mul_right _ (by omega)
        rw [Nat.add_mul] at this
        omega
      have hst := storeVar_ok (P := P) (off := k' * sz + off) (hT _ _ hi) hc (a.eval y) hvs hfit (lcells_one hlv h6)
      have hlen : (leaves (strip (σ.ev y)).2).length = i.size := by omega
      have hcl : cs.toList.length = cs.size := Array.length_toList
      have hvl : (a.eval y).cells.toList.length = (a.eval y).cells.size := Array.length_toList
      have htk : (cs.toList.take (k' * sz + off)).length = k' * sz + off := by rw [List.length_take]; omega
      have hsz2 : (cs.toList.take (k' * sz + off) ++ (a.eval y).cells.toList ++ cs.toList.drop (k' * sz + off + (a.eval y).cells.size)).toArray.size = cs.size := by
        simp only [List.size_toArray, List.length_append, List.length_take, List.length_drop, Array.length_toList]
        omega
      have same : ∀ μ ok2, Rl μ ok2 σ a w → μ[id]? = some gb := by
        intro μ ok2 hR2
        have hx2 := SR.of (ev_ok hR2 x)
        rw [heq] at hx2
        obtain ⟨gb2, hg2, hu2⟩ := hx2 h1
        rw [hu] at hu2
        obtain rfl : gb = gb2 := by simpa using hu2
        exact hg2
      refine ⟨_, w.setRow gb (cs.toList.take (k' * sz + off) ++ (a.eval y).cells.toList ++ cs.toList.drop (k' * sz + off + (a.eval y).cells.size)).toArray, ?_, h.row (b := .arr (es.set k' (setLs (es.getD k' []) off (leaves (strip (σ.ev y)).2))) sz t') hb (by simp) hc hsz2 same
        (fun μ ok2 hR2 hRL => ⟨_, cap, setRow_heap w gb cs _ t' (0, 0) hc, by rw [hsz2]; exact hsz, by simpa using hcap, hmx, ?_⟩), h8⟩
      · rw [hu]
        simp only [Instr.storeAt, Instr.sureAddr, Sem.run_bind, Sem.run_pure, Result.andThen_ok, hst]
      · intro q e hq
        obtain ⟨cs2, cap2, hc2, hsz3, hcap2, hmx2, hel2⟩ := hR2.mem.box id _ gb hb (same μ ok2 hR2)
        rw [hc] at hc2
        simp only [Option.some.injEq, Obj.cells.injEq] at hc2
        obtain ⟨rfl, _⟩ := hc2
        have hlv := leaves_ok (ev_strip hR2 y h2) h3
        have he0 : es[k']? = some (es.getD k' []) := by rw [List.getD_eq_getElem?_getD, List.getElem?_eq_getElem h9]; rfl
        obtain ⟨hel3, hel4⟩ := hel2 k' _ he0
        rw [List.getElem?_set] at hq
        split at hq
        · rename_i e1
          subst e1
          obtain rfl := Option.some.inj hq
          have hta : ((es.getD k' []).take off).length = off := by rw [List.length_take]; omega
          unfold setLs
          refine ⟨by simp only [List.length_append, List.length_take, List.length_drop]; omega, fun j x hj => ?_⟩
          rw [List.getElem?_append, List.getElem?_append] at hj
          simp only [List.length_append, hta] at hj
          have hget : ((cs.toList.take (k' * sz + off) ++ (a.eval y).cells.toList ++ cs.toList.drop (k' * sz + off + (a.eval y).cells.size)).toArray)[k' * sz + j]? =
              if j < off then cs[k' * sz + j]? else if j < off + i.size then (a.eval y).cells.toList[j - off]? else cs[k' * sz + j]? := by
            rw [List.getElem?_toArray, List.getElem?_append, List.getElem?_append]
            simp only [List.length_append, htk]
            split
            · split
              · rename_i h11 h12
                rw [if_pos (by omega), List.getElem?_take, if_pos (by omega)]
                simp
              · rename_i h11 h12
                rw [if_neg (by omega), if_pos (by omega)]
                congr 1
                omega
            · rename_i h11
              rw [if_neg (by omega), if_neg (by omega), List.getElem?_drop]
              have e5 : k' * sz + off + (a.eval y).cells.size + (k' * sz + j - (k' * sz + off + (a.eval y).cells.toList.length)) = k' * sz + j := by omega
              rw [e5]
              simp
          rw [hget]
          split at hj
          · split at hj
            · rename_i h11 h12
              rw [if_pos h12]
              rw [List.getElem?_take, if_pos h12] at hj
              obtain ⟨v, hv, hr⟩ := hel4 j x hj
              exact ⟨v, hv, hRL _ _ hr⟩
            · rename_i h11 h12
              rw [if_neg h12, if_pos (by omega)]
              obtain ⟨v, hv, hr⟩ := hlv.2 (j - off) x hj
              exact ⟨v, hv, hRL _ _ hr⟩
          · rename_i h11
            rw [if_neg (by omega), if_neg (by omega)]
            rw [List.getElem?_drop] at hj
            have e5 : off + (leaves (strip (σ.ev y)).2).length + (j - (off + (leaves (strip (σ.ev y)).2).length)) = j := by omega
            rw [e5] at hj
            obtain ⟨v, hv, hr⟩ := hel4 j x hj
            exact ⟨v, hv, hRL _ _ hr⟩
        · rename_i e1
          obtain ⟨h11, h12⟩ := hel2 q e hq
          refine ⟨h11, fun j x hj => ?_⟩
          obtain ⟨v, hv, hr⟩ := h12 j x hj
          refine ⟨v, ?_, hRL _ _ hr⟩
          have hjs : j < sz := by rw [← h11]; exact (List.getElem?_eq_some_iff.1 hj).1
          rw [List.getElem?_toArray, List.getElem?_append, List.getElem?_append]
          simp only [List.length_append, htk]
          rcases Nat.lt_or_gt_of_ne e1 with hlt | hlt
          · have hm : (k' + 1) * sz ≤ q * sz := Nat.mul_le_mul_right _ hlt
            rw [Nat.add_mul] at hm
            rw [if_neg (by omega), List.getElem?_drop]
            have e5 : k' * sz + off + (a.eval y).cells.size + (q * sz + j - (k' * sz + off + (a.eval y).cells.toList.length)) = q * sz + j := by omega
            rw [e5]
            simpa using hv
          · have hm : (q + 1) * sz ≤ k' * sz := Nat.mul_le_mul_right _ hlt
            rw [Nat.add_mul] at hm
            rw [if_pos (by omega), if_pos (by omega), List.getElem?_take, if_pos (by omega)]
            simpa using hv
    · exact he.elim
  · exact he.elim
/-- The next rune of a text. -/
theorem next_ok {σ : St} {a : Act} {w : World} {x : Operand} {ty : TypeId} {k : A → St → Prop} (h : RelX ok0 μ0 w0 ν σ a w) (he : eNext σ (strip (σ.ev x)) k) :
    ∃ r σ' v w', (Instr.next (a.eval x) true ty).run P w = .ok v w' ∧ RelA ok0 μ0 w0 ν σ' a w' r v ∧ k r σ' := by
  obtain ⟨ok, hm, hR, hO⟩ := _root_.id h
  have hx := SR.of (ev_ok hR x)
  unfold eNext at he
  split at he
  · rename_i g id heq
    split at he
    · rename_i s p hb
      obtain ⟨h1, h2, h3⟩ := he
      rw [heq] at hx
      obtain ⟨gb, hg, hu⟩ := hx h1
      have hbox : w.heap[gb]? = some (.stringIter s p) := hR.mem.box id _ gb hb hg
      by_cases hp : p < s.size
      · have hrun : (Instr.next (a.eval x) true ty).run P w = .ok (.tuple #[.bool true, .int .i64 p, .int .i32 (Utf8.decode s p).1]) (w.iterAt gb s (p + (Utf8.decode s p).2)) := by rw [hu]; exact Lib.run_next_any_at w gb s p ty hbox hp
        refine ⟨_, _, _, _, hrun, ?_, h2 hp⟩
        have hlt := at_in' hbox
        have hat : (w.iterAt gb s (p + (Utf8.decode s p).2)).heap[gb]? = some (.stringIter s (p + (Utf8.decode s p).2)) := by simp [World.iterAt, hlt]
        have hoth : ∀ k, k ≠ gb → (w.iterAt gb s (p + (Utf8.decode s p).2)).heap[k]? = w.heap[k]? := fun k hk => by simp [World.iterAt, Array.getElem?_setIfInBounds, hk.symm]
        refine h.turn (w' := w.iterAt gb s (p + (Utf8.decode s p).2)) hb (by simp) (g := gb) ⟨rfl, rfl, rfl, by simp [World.iterAt], fun k _ hk => hoth k (by simpa using hk), fun k _ cs t hc => ?_⟩ hoth (by simp [World.iterAt]) hlt (fun μ ok2 hR2 => ?_) _ _ (fun μ ok2 hR2 hRL => ⟨hat, _, rfl, rfl, fun j y hj => ?_⟩)
        · by_cases e : k = gb
          · subst e; rw [hbox] at hc; cases hc
          · exact ⟨cs, by rw [hoth k e]; exact hc, rfl⟩
        · have hx2 := SR.of (ev_ok hR2 x)
          rw [heq] at hx2
          obtain ⟨gb2, hg2, hu2⟩ := hx2 h1
          rw [hu] at hu2
          obtain rfl : gb = gb2 := by simpa using hu2
          exact hg2
        · match j, hj with
          | 0, hj => obtain rfl := Option.some.inj hj
                     exact ⟨_, rfl, (fun e => by cases e), (fun _ => ⟨_, rfl, rfl⟩)⟩
          | 1, hj => obtain rfl := Option.some.inj hj
                     exact ⟨_, rfl, (fun e => by cases e), (fun _ => ⟨_, rfl, rfl⟩)⟩
          | 2, hj => obtain rfl := Option.some.inj hj
                     exact ⟨_, rfl, (fun e => by cases e), (fun _ => ⟨_, rfl, rfl⟩)⟩
          | j + 3, hj => simp at hj
      · have hrun : (Instr.next (a.eval x) true ty).run P w = .ok (.tuple #[.bool false]) w := by rw [hu]; exact Lib.run_next_end_at w gb s p ty hbox hp
        refine ⟨_, σ, _, _, hrun, ?_, h3 hp⟩
        refine ⟨[], ok, hm, by rw [List.append_nil]; exact hR, by rw [List.append_nil]; exact hO, _, rfl, rfl, fun j y hj => ?_⟩
        cases j with
        | zero => obtain rfl := Option.some.inj hj
                  exact ⟨_, rfl, (fun e => by cases e), (fun _ => ⟨_, rfl, rfl⟩)⟩
        | succ j => simp at hj
    · exact he.elim
  · exact he.elim
end
end Go.Proofs.YtdedmhmomoejkaaDoor.V
