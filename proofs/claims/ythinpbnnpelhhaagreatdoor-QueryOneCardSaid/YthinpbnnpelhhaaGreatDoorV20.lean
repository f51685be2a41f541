import Derived.Test.YthinpbnnpelhhaaGreatDoorV19
namespace Go.Proofs.YthinpbnnpelhhaaGreatDoor.V
open Go Go.RowKit Go.Proofs.YthinpbnnpelhhaaGreatDoorW.PrintLast
open Go.Proofs
set_option linter.unusedVariables false
set_option linter.unusedSimpArgs false
attribute [local irreducible] awp
--IMP V19
/-! Words for walks. -/
attribute [go_sem] ty1 ty2 ty3 ty4 ty5 ty6 ty7 ty8 ty9 ty10 ty11 ty12 ty13 ty14 ty15 ty16 ty17 ty18 ty19 ty20 ty21 ty22 ty23 ty24 ty25 ty26 ty27 ty28 ty29 ty30 ty31 ty32 ty33 ty34 ty35 ty36 ty37 ty38 ty39 ty40 ty41 ty42 ty43 ty44 ty45 ty46 ty47 ty48 ty49 ty50 ty51 ty52 ty53 ty54 ty55 ty56 ty57 ty58 ty60 ty61 ty62 ty63 ty64 ty65 ty66 ty67 ty68 ty69 ty70 ty71 ty72 ty73 ty74 ty75 ty76 ty77 ty78 ty79 ty80 ty82 ty83 ty84 ty85 ty86 ty87 ty88 ty89 ty90 ty91 ty92 ty93 ty94 ty95 ty96 ty98 ty99 ty100 ty101 ty103 ty104 ty105 ty106 ty107 ty109 ty110 ty111 ty112 ty113 ty114 ty115 ty116 ty117 ty119 ty120 ty121 ty122 ty124 ty125 ty126 ty127 ty129 ty131 ty132 ty133 ty135 ty136 ty137 ty138 ty139 ty140 ty141 ty142 ty143 ty144 ty145 ty146 ty147 ty148 ty149 ty150
attribute [go_sem] St.hide hideB aops aplan afork aoper pure? eff areg gval St.ev St.putO St.put lk strip ofV pBin isLit isIfc pIfc pEqI iop sop eqv pEq pickV pPick pNot pNeg pNil pConv pLoad pFieldAddr pField pIndexAddr pIndex pExtract pLen pMin bound pSlice leaves whole lcell Value.oneCell' fillL pBuild mk fcells A.v A.int A.bool A.str A.junk start numb St.keep St.ids upto pos mapA mapB subL viewL Md.junk Md.after memFree Ty.size Ty.isAgg Ty.known TI.agg Ty.bytes eStore eAppend eMake eLit eConv eRange eNext zeroL setLs rowOf srcOK callK St.after putBack up idsA idsL St.freeze outside notHid seqQ blockQ loopQ resA toPair
attribute [go_sem] List.length_cons List.length_nil List.length_append List.length_map List.map_cons List.map_nil List.flatMap_cons List.flatMap_nil List.zipIdx_cons List.zipIdx_nil List.mem_cons List.not_mem_nil List.any_cons List.any_nil List.append_nil List.nil_append List.cons_append List.all_cons List.all_nil List.getElem?_toArray List.getElem?_cons_zero List.getElem?_cons_succ List.getElem?_nil List.take_succ_cons List.take_zero List.drop_succ_cons List.drop_zero List.take_nil List.drop_nil List.headD_cons List.set_cons_zero List.set_cons_succ Option.map_some Option.map_none Option.bind_some Option.bind_none Option.isSome_some List.getD_cons_zero List.getD_cons_succ Nat.zero_add Nat.add_zero and_true true_and and_self Bool.and_true Bool.true_and Bool.and_self Bool.false_eq_true eq_self List.mapM_nil List.mapM_cons Option.pure_def Option.bind_eq_bind List.filter_nil List.filter_cons List.contains_nil List.contains_cons List.foldr_cons List.foldr_nil Bool.not_true Bool.not_false Bool.false_or Bool.or_false Bool.true_or Bool.or_true List.range_zero List.range_succ List.toList_toArray Option.some.injEq exists_eq_left' exists_eq_left exists_const
theorem pick_and (a b : Bool) : (bif a then b else false) = (a && b) := by cases a <;> rfl
theorem pick_or (a b : Bool) : (bif a then true else b) = (a || b) := by cases a <;> rfl
attribute [go_sem] beq_true beq_false pick_and pick_or implies_true imp_self decide_eq_true_eq decide_eq_false_iff_not Bool.not_eq_true' Bool.not_eq_false' cond_true cond_false beq_self_eq_true true_or or_true false_or or_false Nat.sub_zero Int.cast_ofNat_Int
theorem sg {p q : Prop} (hq : q) (h : q → p := by
  intro hq
  simp only [go_sem, Nat.reduceAdd, Nat.reduceSub, Nat.reduceMul, Nat.reduceLT, Nat.reduceLeDiff, Nat.reduceEqDiff, reduceIte, reduceCtorEq, if_true, if_false, Int.reduceEq, Int.reduceLT, Int.reduceLE, Int.reduceAdd, Int.reduceSub, Int.reduceMul, Int.reduceNeg, Int.reduceToNat, decide_true, decide_false, Nat.reduceBEq]
  exact hq) : p := h hq
theorem cb {P : Program} {T : Ty} {c : Operand} {x y : Code} {Q : AE → St → Prop} {σ : St} {t : Bool} {p : Prop} (hx : p → awp P T x Q σ) (hy : ¬ p → awp P T y Q σ)
  (hc : strip (σ.ev c) = (true, .one (.c (.v (.bool t)))) := by
    simp only [go_sem, Nat.reduceAdd, Nat.reduceSub, Nat.reduceMul, Nat.reduceLT, Nat.reduceLeDiff, Nat.reduceEqDiff, reduceIte, reduceCtorEq, if_true, if_false, Int.reduceEq, Int.reduceLT, Int.reduceLE, Int.reduceAdd, Int.reduceSub, Int.reduceMul, Int.reduceNeg, Int.reduceToNat, decide_true, decide_false, Nat.reduceBEq]
    exact rfl)
  (hp : t = true ↔ p := by
    first
      | (simp only [decide_eq_true_eq, Bool.and_eq_true, Bool.or_eq_true, Bool.not_eq_true', decide_eq_false_iff_not, Bool.not_eq_false']; done)
      | (try simp only [decide_eq_true_eq, Bool.and_eq_true, Bool.or_eq_true, Bool.not_eq_true', decide_eq_false_iff_not, Bool.not_eq_false']
         exact Iff.rfl)) : awp P T (.cond c x y) Q σ := by
  refine cdd ?_
  rw [hc]
  refine ⟨rfl, fun h => hx (hp.1 h), fun h => hy (fun h' => ?_)⟩
  rw [hp.2 h'] at h
  cases h
theorem ct {P : Program} {T : Ty} {c : Operand} {x y : Code} {Q : AE → St → Prop} {σ : St} {t : Bool} (hc : strip (σ.ev c) = (true, .one (.c (.v (.bool t)))) := by
    simp only [go_sem, Nat.reduceAdd, Nat.reduceSub, Nat.reduceMul, Nat.reduceLT, Nat.reduceLeDiff, Nat.reduceEqDiff, reduceIte, reduceCtorEq, if_true, if_false, Int.reduceEq, Int.reduceLT, Int.reduceLE, Int.reduceAdd, Int.reduceSub, Int.reduceMul, Int.reduceNeg, Int.reduceToNat, decide_true, decide_false, Nat.reduceBEq]
    exact rfl) (ht : t = true := by rfl) (hx : awp P T x Q σ) : awp P T (.cond c x y) Q σ := by
  subst ht
  refine cdd ?_
  rw [hc]
  exact ⟨rfl, (fun _ => hx), (fun h => by cases h)⟩
theorem cf {P : Program} {T : Ty} {c : Operand} {x y : Code} {Q : AE → St → Prop} {σ : St} {t : Bool} (hc : strip (σ.ev c) = (true, .one (.c (.v (.bool t)))) := by
    simp only [go_sem, Nat.reduceAdd, Nat.reduceSub, Nat.reduceMul, Nat.reduceLT, Nat.reduceLeDiff, Nat.reduceEqDiff, reduceIte, reduceCtorEq, if_true, if_false, Int.reduceEq, Int.reduceLT, Int.reduceLE, Int.reduceAdd, Int.reduceSub, Int.reduceMul, Int.reduceNeg, Int.reduceToNat, decide_true, decide_false, Nat.reduceBEq]
    exact rfl) (ht : t = false := by rfl) (hy : awp P T y Q σ) : awp P T (.cond c x y) Q σ := by
  subst ht
  refine cdd ?_
  rw [hc]
  exact ⟨rfl, (fun h => by cases h), fun _ => hy⟩
theorem cl {P : Program} {gr : Option (List Nat)} {σ : St} {g : FuncId} {caps : List Nat} {xs : List A} {k : A → St → Prop} (lids : List Nat)
    (h : PC P g ((xs.map fun x => mapA (subL σ.bx (pos lids)) x) ++ caps.map fun c => .one (subL σ.bx (pos lids) (.ptr c 0))) (lids.map fun i => mapB (subL [] (pos lids)) (σ.bx.getD i .hid)) (callK σ lids ((xs.flatMap idsA).filter fun i => !lids.contains i) k))
    (hg : lentIn gr lids := by first | trivial | rfl) (hn : lids.Nodup := by simp) (hh : (lids.all fun i => notHid σ.bx[i]?) = true := by rfl) : eCall P gr σ g caps xs k := ⟨lids, hg, hn, hh, h⟩
/-- A contract out of one of the library's: plain values in, a plain value out, nothing turned. -/
theorem PC_valG {P : Program} {f : FuncId} {fn : Func} (vs : List Value) (v : Value) (hf : P.funcs[f]? = some fn) (h : ∀ w w0 : World, Start w0 → (∀ g, g ∈ glIds → w.heap[g]? = w0.heap[g]?) → Calls P f vs.toArray w fun e w' => e = .returned v ∧ Below w.heap.size w w')
    (hn : (fn.name == "runtime.NumGoroutine") = false := by kernel_rfl) (hb : fn.body.isSome = true := by kernel_rfl) : PC P f (vs.map fun x => .one (.c (.v x))) [] (fun r bx => r = ofV v ∧ bx = []) := by
  refine ⟨⟨fn, hf, hn, hb⟩, fun ok μ0 w cargs _ hm hl ha => ?_⟩
  have hμ : μ0 = [] := List.eq_nil_of_length_eq_zero hm.len
  subst hμ
  have hc : cargs = vs.toArray := by
    apply Array.ext'
    apply List.ext_getElem?
    intro j
    rw [List.length_map] at hl
    have hcl : cargs.toList.length = cargs.size := Array.length_toList
    by_cases hj : j < vs.length
    · obtain ⟨u, h1, h2⟩ := ha j (.one (.c (.v (vs[j]'hj)))) (by rw [List.getElem?_map, List.getElem?_eq_getElem hj]; rfl)
      have e : u = vs[j]'hj := h2
      subst e
      rw [Array.getElem?_toList, h1]
      simp [hj]
    · rw [List.getElem?_eq_none (by omega), List.getElem?_eq_none (by simp; omega)]
  subst hc
  obtain ⟨w0, hs, hg0⟩ := hm.gl
  refine (h w w0 hs fun g hg => (hg0 g hg).2).mono fun e w' ⟨h1, h2⟩ => ⟨v, ofV v, [], [], ok, h1, ⟨rfl, rfl⟩, ?_, ?_, fun g hg => by simp at hg, Fw.of _ h2, fun _ h => h, fun _ h => .inl h⟩
  · cases v with
    | agg cs => exact ⟨cs, rfl, RLs.vals _⟩
    | _ => exact rfl
  · exact ⟨rfl, fun i j b b' g h => by simp at h, fun i b g h => by simp at h, fun g hg => by simp at hg, fun k hk => Nat.lt_of_lt_of_le (hm.small k hk) h2.size, fun i b g h => by simp at h, hm.gl.keep (fun _ h => h) (fun k hk => h2.block k (hm.small k hk))⟩
theorem PC_val {P : Program} {f : FuncId} {fn : Func} (vs : List Value) (v : Value) (hf : P.funcs[f]? = some fn) (h : ∀ w : World, Calls P f vs.toArray w fun e w' => e = .returned v ∧ Below w.heap.size w w')
    (hn : (fn.name == "runtime.NumGoroutine") = false := by kernel_rfl) (hb : fn.body.isSome = true := by kernel_rfl) : PC P f (vs.map fun x => .one (.c (.v x))) [] (fun r bx => r = ofV v ∧ bx = []) := PC_valG vs v hf (fun w _ _ _ => h w) hn hb
end Go.Proofs.YthinpbnnpelhhaaGreatDoor.V
