import Derived.Test.YtdedmhmomoejkaaDoorV5
namespace Go.Proofs.YtdedmhmomoejkaaDoor.V
open Go Go.RowKit Go.Proofs.YtdedmhmomoejkaaDoorW.PrintLast
set_option linter.unusedVariables false
set_option linter.unusedSimpArgs false
/-! Sixth part: what writes, makes and calls: the words. -/
def vwC : L → C
  | .c x => x
  | _ => .any
/-- A row's elements, as they are looked at. -/
def vw (es : List (List L)) : Nat → Nat → C := fun i j => vwC ((es.getD i []).getD j .junk)
/-- An own row, looked at. -/
def viewL (bx : List B) : L → L
  | .own id sz o n => match bx[id]? with
    | some (.arr es sz' _) => if sz = sz' ∧ o + n ≤ es.length then .c (.sl n sz (fun i => vw es (o + i))) else .junk
    | _ => .junk
  | .ptr _ _ => .junk
  | .ep _ _ _ _ => .junk
  | .fn f caps => if caps = [] then .fn f [] else .junk
  | l => l
/-- Own memory by new numbers (ρ); where there is none, an own row is looked at, and all else is let go. -/
def subL (bx : List B) (ρ : Nat → Option Nat) : L → L
  | .own id sz o n => match ρ id with
    | some k => .own k sz o n
    | none => viewL bx (.own id sz o n)
  | .ptr id off => match ρ id with
    | some k => .ptr k off
    | none => .junk
  | .ep id sz i off => match ρ id with
    | some k => .ep k sz i off
    | none => .junk
  | .fn f caps => match caps.mapM ρ with
    | some cs => .fn f cs
    | none => .junk
  | l => l
/-- A map of what is told, leaf by leaf. -/
def mapA (f : L → L) : A → A
  | .one l => .one (f l)
  | .agg ls => .agg (ls.map f)
  | .tup xs => .tup (xs.map fun x => (x.1.map f, x.2))
  | .opt g a => .opt g (mapA f a)
def mapB (f : L → L) : B → B
  | .var ls t => .var (ls.map f) t
  | .arr es sz t => .arr (es.map fun e => e.map f) sz t
  | b => b
/-- Where it stands in a list. -/
def pos : List Nat → Nat → Option Nat
  | [], _ => none
  | a :: r, x => if a = x then some 0 else (pos r x).map (· + 1)
def upto : Nat → Nat → List Nat
  | _, 0 => []
  | k, n + 1 => k :: upto (k + 1) n
def idsL : L → List Nat
  | .own id _ _ _ => [id]
  | _ => []
def idsA : A → List Nat
  | .one l => idsL l
  | .agg ls => ls.flatMap idsL
  | .tup xs => xs.flatMap fun x => x.1.flatMap idsL
  | .opt _ a => idsA a
def leafIn (l : L) : A → Prop
  | .one l' => l = l'
  | .agg ls => l ∈ ls
  | .tup xs => ∃ x, x ∈ xs ∧ l ∈ x.1
  | .opt _ a => leafIn l a
/-- The own blocks that go on: the lent ones, and some more. -/
def St.ids (σ : St) (js : List Nat) : List Nat := upto 0 σ.m ++ js
def St.good (σ : St) (js : List Nat) : Prop := (σ.ids js).Nodup ∧ ∀ j, j ∈ js → j < σ.bx.length
/-- The registers that are looked at later, and some own blocks. -/
def St.keep (σ : St) (ks js : List Nat) : St :=
  { σ with tm := ks.map fun k => (k, mapA (subL σ.bx (pos (σ.ids js))) (lk σ.tm k)), bx := (σ.ids js).map fun i => mapB (subL σ.bx (pos (σ.ids js))) (σ.bx.getD i .hid) }
/-- The call of a function: what it returns (r), and the memory that is its own, or lent, behind it (bx). -/
def PC (P : Program) (f : FuncId) (args : List A) (bx0 : List B) (Q : A → List B → Prop) : Prop :=
  (∃ fn, P.funcs[f]? = some fn ∧ (fn.name == "runtime.NumGoroutine") = false ∧ fn.body.isSome = true) ∧
  ∀ (ok : Nat → Prop) (μ0 : List Nat) (w : World) (cargs : Array Value), (∀ b, b ∈ bx0 → b ≠ .hid) → Mem μ0 ok bx0 w → args.length = cargs.size → (∀ (j : Nat) a, args[j]? = some a → ∃ v, cargs[j]? = some v ∧ RA (RL μ0 ok w) a v) →
    Calls P f cargs w fun e w' => ∃ cv r bx ν ok', e = .returned cv ∧ Q r bx ∧ RA (RL (μ0 ++ ν) ok' w') r cv ∧ Mem (μ0 ++ ν) ok' bx w' ∧ (∀ g, g ∈ ν → w.heap.size ≤ g ∨ g ∈ μ0) ∧ Fw μ0 w w' ∧ (∀ k, ok k → ok' k) ∧ (∀ k, ok' k → ok k ∨ w.heap.size ≤ k ∨ k ∈ μ0)
theorem PC.mono {P : Program} {f : FuncId} {args : List A} {bx0 : List B} {Q Q' : A → List B → Prop} (h : PC P f args bx0 Q) (hq : ∀ r bx, Q r bx → Q' r bx) : PC P f args bx0 Q' :=
  ⟨h.1, fun ok μ0 w cargs h0 h1 h2 h3 => (h.2 ok μ0 w cargs h0 h1 h2 h3).mono fun e w' ⟨cv, r, bx, ν, ok', he, hQ, rest⟩ => ⟨cv, r, bx, ν, ok', he, hq _ _ hQ, rest⟩⟩
/-- The caller's numbers of the callee's blocks. -/
def up (lids : List Nat) (n : Nat) (k : Nat) : Option Nat := some (if k < lids.length then lids.getD k 0 else n + (k - lids.length))
def putBack : List B → List Nat → List B → List B
  | bx, i :: is, b :: bs => putBack (bx.set i b) is bs
  | bx, _, _ => bx
def St.after (σ : St) (lids : List Nat) (n : Nat) (bx : List B) : St :=
  { σ with bx := putBack σ.bx lids ((bx.take lids.length).map (mapB (subL [] (up lids n)))) ++ (bx.drop lids.length).map (mapB (subL [] (up lids n))) }
def outside (ids : List Nat) (i : Nat) : Option Nat := if i ∈ ids then none else some i
/-- Own rows that are never written again. -/
def St.freeze (σ : St) (ids : List Nat) : St :=
  { σ with tm := σ.tm.map fun p => (p.1, mapA (subL σ.bx (outside ids)) p.2), bx := (σ.bx.map (mapB (subL σ.bx (outside ids)))).zipIdx.map fun p => if p.2 ∈ ids then .hid else p.1 }
/-- It leans on no row that is never written again. -/
def cleanL : L → Bool
  | .c (.sl _ _ _) => false
  | .rp _ _ => false
  | _ => true
def cleanA (a : A) : Prop := ∀ l, leafIn l a → cleanL l = true
def cleanB : B → Prop
  | .var ls _ => ls.all cleanL = true
  | .arr es _ _ => ∀ e, e ∈ es → e.all cleanL = true
  | _ => True
def cleanBs : List B → Prop
  | [] => True
  | b :: r => cleanB b ∧ cleanBs r
def callK (σ : St) (lids vids : List Nat) (k : A → St → Prop) (r : A) (bx : List B) : Prop :=
  if vids = [] then k (mapA (subL [] (up lids σ.bx.length)) r) (σ.after lids σ.bx.length bx)
  else (cleanA r ∧ cleanBs bx ∧ k (mapA (subL [] (up lids σ.bx.length)) r) (σ.after lids σ.bx.length bx)) ∨ k (mapA (subL [] (up lids σ.bx.length)) r) ((σ.freeze vids).after lids σ.bx.length bx)
def notHid : Option B → Bool
  | some .hid => false
  | some _ => true
  | none => false
def zeroL (T : Ty) (t : TypeId) : List L := match T t with | some i => i.zero.map fun x => .c (.v x) | none => []
/-- An own variable's cells, some of them stored anew. -/
def setLs (ls : List L) (off : Nat) (vs : List L) : List L := ls.take off ++ vs ++ ls.drop (off + vs.length)
def eStore (T : Ty) (σ : St) (t : TypeId) (x v : Bool × A) (k : A → St → Prop) : Prop :=
  match x with
  | (g, .one (.ptr id off)) => match σ.bx[id]? with
    | some (.var ls t') => g = true ∧ v.1 = true ∧ whole v.2 = true ∧ T.known t = true ∧ (leaves v.2).length = T.size t ∧ (leaves v.2).all lcell = true ∧ off + T.size t ≤ ls.length ∧
        k .junk { σ with bx := σ.bx.set id (.var (setLs ls off (leaves v.2)) t') }
    | _ => False
  | (g, .one (.ep id sz i off)) => match σ.bx[id]? with
    | some (.arr es sz' t') => g = true ∧ v.1 = true ∧ whole v.2 = true ∧ T.known t = true ∧ (leaves v.2).length = T.size t ∧ (leaves v.2).all lcell = true ∧ sz = sz' ∧ i < es.length ∧ off + T.size t ≤ sz ∧
        k .junk { σ with bx := σ.bx.set id (.arr (es.set i (setLs (es.getD i []) off (leaves v.2))) sz' t') }
    | _ => False
  | _ => False
def rowList (n sz : Nat) (f : Nat → Nat → C) : List (List L) := (List.range n).map fun i => (List.range sz).map fun j => .c (f i j)
def bytesL (s : ByteArray) : List (List L) := s.data.toList.map fun b => [.c (.v (.int .u8 (b.toNat : Int)))]
/-- The elements of a row that is looked at: how many cells each has, and they. -/
def rowOf (bx : List B) : L → Option (Nat × List (List L))
  | .c (.sl n sz f) => some (sz, rowList n sz f)
  | .c (.v (.string s)) => some (1, bytesL s)
  | .own id sz o n => match bx[id]? with
    | some (.arr es sz' _) => if sz = sz' ∧ o + n ≤ es.length then some (sz, (es.drop o).take n) else none
    | _ => none
  | _ => none
def Ty.bytes (T : Ty) (t : TypeId) : Nat := match T t with | some i => i.bytes | none => 0
def allCell (es : List (List L)) : Prop := ∀ e, e ∈ es → e.all lcell = true
def srcOK (T : Ty) (t : TypeId) (l : L) : Bool :=
  match T t, l with
  | some ⟨.slice _, _, _, _⟩, .c (.v _) => false
  | some ⟨.slice _, _, _, _⟩, _ => true
  | some ⟨.prim .string, _, _, _⟩, .c (.v (.string _)) => true
  | _, _ => false
def eAppend (T : Ty) (σ : St) (t t2 : TypeId) (s x : Bool × A) (k : A → St → Prop) : Prop :=
  match T t with
  | some ⟨.slice e, _, _, _⟩ => match s, x with
    | (g, .one sl), (g', .one xl) => match rowOf σ.bx xl with
      | some (sz, ns) => match sl with
        | .c (.v (.slice none 0 0)) => allCell ns ∧ srcOK T t2 xl = true ∧ g = true ∧ g' = true ∧ T.known e = true ∧ T.size e = sz ∧ 0 < sz ∧ 0 < ns.length ∧ ns.length * T.bytes e ≤ 140737488355328 ∧ ns.length ≤ maxLen ∧
            k (.one (.own σ.bx.length sz 0 ns.length)) { σ with bx := σ.bx ++ [.arr ns sz e] }
        | .own id sz' 0 n => match σ.bx[id]? with
          | some (.arr es sz'' t') => allCell ns ∧ srcOK T t2 xl = true ∧ g = true ∧ g' = true ∧ T.known e = true ∧ T.size e = sz ∧ 0 < sz ∧ sz' = sz ∧ sz'' = sz ∧ t' = e ∧ n ≤ es.length ∧ (n + ns.length) * T.bytes e ≤ 140737488355328 ∧ n + ns.length ≤ maxLen ∧
              k (.one (.own σ.bx.length sz 0 (n + ns.length))) { σ with bx := σ.bx.set id .hid ++ [.arr (es.take n ++ ns) sz e] }
          | _ => False
        | _ => False
      | none => False
    | _, _ => False
  | _ => False
def eMake (T : Ty) (σ : St) (t : TypeId) (l c : Bool × A) (k : A → St → Prop) : Prop :=
  match T t with
  | some ⟨.slice e, _, _, _⟩ => match l, c with
    | (g, .one (.c (.v (.int _ n)))), (g', .one (.c (.v (.int _ m)))) => g = true ∧ g' = true ∧ 0 ≤ n ∧ n ≤ m ∧ T.known e = true ∧ 0 < T.size e ∧ m.toNat ≤ maxLen ∧ T.bytes e * m.toNat ≤ 281474976710656 ∧
        (zeroL T e).length = T.size e ∧
        k (.one (.own σ.bx.length (T.size e) 0 n.toNat)) { σ with bx := σ.bx ++ [.arr (List.replicate n.toNat (zeroL T e)) (T.size e) e] }
    | _, _ => False
  | _ => False
def eLit (T : Ty) (σ : St) (t : TypeId) (n : Nat) (ps : List (Nat × Bool × A)) (k : A → St → Prop) : Prop :=
  match T t with
  | some ⟨.slice e, _, _, _⟩ => (ps.map (·.1)) = List.range n ∧ (ps.all fun p => p.2.1 && whole p.2.2 && (leaves p.2.2).all lcell) = true ∧ T.known e = true ∧ 0 < T.size e ∧ n ≤ 1000 ∧ T.size e ≤ 1000 ∧ (ps.all fun p => (leaves p.2.2).length == T.size e) = true ∧
        k (.one (.own σ.bx.length (T.size e) 0 n)) { σ with bx := σ.bx ++ [.arr (ps.map fun p => leaves p.2.2) (T.size e) e] }
  | _ => False
/-- The bytes of a row, as a text. -/
def textOf (es : List (List L)) : ByteArray := ⟨(es.map fun e => match e with | [.c (.v (.int _ b))] => UInt8.ofNat b.toNat | _ => 0).toArray⟩
def allByte (es : List (List L)) : Prop := ∀ e, e ∈ es → ∃ b, e = [.c (.v (.int .u8 b))]
def eConv (T : Ty) (σ : St) (s d : TypeId) (x : Bool × A) (k : A → St → Prop) : Prop :=
  match T s, T d with
  | some ⟨.slice e, _, _, _⟩, some ⟨.prim .string, _, _, _⟩ => match T e with
    | some ⟨.prim (.int .u8), _, _, _⟩ => match x with
      | (g, .one xl) => match rowOf σ.bx xl with
        | some (sz, ns) => g = true ∧ sz = 1 ∧ srcOK T s xl = true ∧ allByte ns ∧ k (.str (textOf ns)) σ
        | none => False
      | _ => False
    | _ => False
  | _, _ => False
def eRange (T : Ty) (σ : St) (t : TypeId) (x : Bool × A) (k : A → St → Prop) : Prop :=
  match T t, x with
  | some ⟨.prim .string, _, _, _⟩, (g, .one (.c (.v (.string s)))) => g = true ∧ k (.one (.ptr σ.bx.length 0)) { σ with bx := σ.bx ++ [.iter s 0] }
  | _, _ => False
def eNext (σ : St) (x : Bool × A) (k : A → St → Prop) : Prop :=
  match x with
  | (g, .one (.ptr id 0)) => match σ.bx[id]? with
    | some (.iter s p) => g = true ∧
        (p < s.size → k (.tup [([.c (.v (.bool true))], false), ([.c (.v (.int .i64 (p : Int)))], false), ([.c (.v (.int .i32 ((Utf8.decode s p).1 : Int)))], false)]) { σ with bx := σ.bx.set id (.iter s (p + (Utf8.decode s p).2)) }) ∧
        (¬ p < s.size → k (.tup [([.c (.v (.bool false))], false)]) σ)
    | _ => False
  | _ => False
/-- May these blocks be lent to a call? none: whichever. -/
def lentIn : Option (List Nat) → List Nat → Prop
  | none, _ => True
  | some D, l => (l.all fun i => D.contains i) = true
/-- A call: some own blocks are lent to it (lids); own rows that it is handed, and that are not lent, are looked at. gr: it may make memory, and writes none that was there but some own blocks. -/
def eCall (P : Program) (gr : Option (List Nat)) (σ : St) (g : FuncId) (caps : List Nat) (xs : List A) (k : A → St → Prop) : Prop :=
  ∃ lids : List Nat, lentIn gr lids ∧ lids.Nodup ∧ (lids.all fun i => notHid σ.bx[i]?) = true ∧
    PC P g ((xs.map fun x => mapA (subL σ.bx (pos lids)) x) ++ caps.map fun c => .one (subL σ.bx (pos lids) (.ptr c 0))) (lids.map fun i => mapB (subL [] (pos lids)) (σ.bx.getD i .hid))
      (callK σ lids ((xs.flatMap idsA).filter fun i => !lids.contains i) k)
def eff (P : Program) (T : Ty) (gr : Option (List Nat)) (o : Oper) (σ : St) (k : A → St → Prop) : Prop :=
  match o.op with
  | .alloc t => T.known t = true ∧ k (.one (.ptr σ.bx.length 0)) { σ with bx := σ.bx ++ [.var (zeroL T t) t] }
  | .box t x => (strip (σ.ev x)).1 = true ∧ whole (strip (σ.ev x)).2 = true ∧ k (.one (.ptr σ.bx.length 0)) { σ with bx := σ.bx ++ [.var (leaves (strip (σ.ev x)).2) t] }
  | .store t x y => gr = none ∧ eStore T σ t (strip (σ.ev x)) (strip (σ.ev y)) k
  | .makeFunc (.func f) fs cs => fs = #[] ∧ match cs.toList.mapM (fun c => match strip (σ.ev c) with | (true, .one (.ptr id 0)) => some id | _ => none) with
      | some ids => k (.one (.fn f ids)) σ
      | none => False
  | .makeSlice t l c => eMake T σ t (strip (σ.ev l)) (strip (σ.ev c)) k
  | .buildSlice t n ps => eLit T σ t n (ps.toList.map fun p => (p.1, strip (σ.ev p.2))) k
  | .convert s d x => eConv T σ s d (strip (σ.ev x)) k
  | .range t x => eRange T σ t (strip (σ.ev x)) k
  | .next x true => gr = none ∧ eNext σ (strip (σ.ev x)) k
  | .call ⟨.builtin .append, xs, ts⟩ => gr = none ∧ match xs.toList, ts.toList with
    | [s, x], [t, t'] => eAppend T σ t t' (strip (σ.ev s)) (strip (σ.ev x)) k
    | _, _ => False
  | .call ⟨.value f, xs, _⟩ => match strip (σ.ev f) with
    | (true, .one (.fn g caps)) => (xs.toList.all fun x => (strip (σ.ev x)).1) = true ∧ eCall P gr σ g caps (xs.toList.map fun x => (strip (σ.ev x)).2) k
    | _ => False
  | _ => False
/-- Is a guarded operation wanted? -/
def gval (σ : St) (ops : Array Oper) (j : Nat) (b : Bool) : Option Bool :=
  match (ops[j]?).bind (·.dst) with
  | some d => match strip (lk σ.tm d) with
    | (g, .one (.c (.v (.bool t)))) => some (g && (t == b))
    | _ => none
  | none => none
def aoper (P : Program) (T : Ty) (gr : Option (List Nat)) (ops : Array Oper) (o : Oper) (σ : St) (k : St → Prop) : Prop :=
  match o.guard with
  | none => match pure? T σ o.op with
    | some (p, r) => p ∧ k (σ.putO o.dst r)
    | none => eff P T gr o σ fun r σ' => k (σ'.putO o.dst r)
  | some (j, b) => match gval σ ops j b with
    | some g => match pure? T σ o.op with
      | some (p, r) => (g = true → p) ∧ k (σ.putO o.dst (.opt g r))
      | none => (g = true → eff P T gr o σ fun r σ' => k (σ'.putO o.dst r)) ∧ (g = false → k (σ.putO o.dst (.v undef)))
    | none => False
def aops (P : Program) (T : Ty) (ops : Array Oper) : List Oper → St → (St → Prop) → Prop
  | [], σ, k => k σ
  | o :: r, σ, k => aoper P T none ops o σ fun σ' => aops P T ops r σ' k
/-- What an operation that only reads asks and yields, its guard minded. -/
def areg (T : Ty) (ops : Array Oper) (o : Oper) (σ : St) : Option (Prop × A) :=
  match o.guard with
  | none => pure? T σ o.op
  | some (j, b) => match gval σ ops j b with
    | some g => match pure? T σ o.op with
      | some (p, r) => some (g = true → p, .opt g r)
      | none => none
    | none => none
/-- How the operations of a region whose order is drawn are walked. take: it reads what no other of them turns; pure: it looks at registers alone; one: none but it may come up; last: the same, and it writes. -/
inductive Sp where
  | take (i : Nat)
  | pure (i : Nat)
  | one (i : Nat)
  | last (i : Nat)
def lasts : List Sp → List Nat
  | [] => []
  | .last i :: r => i :: lasts r
  | _ :: r => lasts r
def bitsOf (T : List (List Nat × List Nat)) : List Nat := T.foldl (fun B r => B ++ [upM B B.length r.1]) []
def planT (T : Bool × List (List Nat × List Nat)) (B ds : List Nat) : List Sp → List Bool → Bool
  | [], l => readyT T.2 l == []
  | .take i :: r, l => freeT T.2 l i && readyAt T.2 l i && closedT T.2 l && lastW T.2 B l ds i && planT T B ds r (l.set i true)
  | .pure i :: r, l => freeT T.2 l i && readyAt T.2 l i && planT T B ds r (l.set i true)
  | .one i :: r, l => readyT T.2 l == [i] && !ds.contains i && planT T B ds r (l.set i true)
  | .last i :: r, l => readyT T.2 l == [i] && ds.contains i && planT T B ds r (l.set i true)
def planB (ops : Array Oper) (p : List Sp) : Bool :=
  let T := rtab .any ops
  let B := bitsOf T.2
  T.1 && waitsOk T.2 B && p.length == ops.size && planT T B (lasts p) p (List.replicate ops.size false)
/-- What is known of the memory at the region's start. -/
inductive Md where
  | same
  | old (τ : St)
  | gone
def Md.junk : Md → Option Nat → Md
  | .old τ, d => .old (τ.putO d .junk)
  | m, _ => m
def Md.after (σ : St) (d : Option Nat) : Md → Md
  | .same => .old (σ.putO d .junk)
  | m => m.junk d
/-- Without some own blocks. -/
def hideB : List Nat → Nat → List B → List B
  | _, _, [] => []
  | D, n, b :: r => (if D.contains n then .hid else b) :: hideB D (n + 1) r
def St.hide (σ : St) (D : List Nat) : St := { σ with bx := hideB D 0 σ.bx }
/-- D: the own blocks that calls among them turn. -/
def aplan (P : Program) (T : Ty) (ops : Array Oper) (D : List Nat) : List Sp → Md → St → (St → Prop) → Prop
  | [], _, σ, k => k σ
  | .take i :: r, m, σ, k => match ops[i]? with
    | some o => match m with
      | .same => match areg T ops o (σ.hide D) with
        | some (p, x) => p ∧ aplan P T ops D r .same (σ.putO o.dst x) k
        | none => False
      | .old τ => match areg T ops o (τ.hide D), areg T ops o σ with
        | some (p, x), some (p', x') => p ∧ p' ∧ aplan P T ops D r (.old (τ.putO o.dst x)) (σ.putO o.dst x') k
        | _, _ => False
      | .gone => False
    | none => False
  | .pure i :: r, m, σ, k => match ops[i]? with
    | some o => match areg T ops o σ with
      | some (p, x) => memFree o.op = true ∧ p ∧ aplan P T ops D r (m.junk o.dst) (σ.putO o.dst x) k
      | none => False
    | none => False
  | .one i :: r, m, σ, k => match m with
    | .gone => False
    | m => match ops[i]? with
      | some o => aoper P T (some D) ops o σ fun σ' => aplan P T ops D r (m.after σ o.dst) σ' k
      | none => False
  | .last i :: r, m, σ, k => match ops[i]? with
    | some o => aoper P T none ops o σ fun σ' => aplan P T ops D r .gone σ' k
    | none => False
inductive AE where
  | normal
  | exit (id : Nat)
  | ret
def acond (c : Bool × A) (x y : Prop) : Prop :=
  match c with
  | (g, .one (.c (.v (.bool t)))) => g = true ∧ (t = true → x) ∧ (t = false → y)
  | _ => False
def awp (P : Program) (T : Ty) : Code → (AE → St → Prop) → St → Prop
  | .skip, Q, σ => Q .normal σ
  | .region _ ops false, Q, σ => aops P T ops ops.toList σ (Q .normal)
  | .region _ ops true, Q, σ => ∃ p D, planB ops p = true ∧ (D.all fun i => notHid σ.bx[i]?) = true ∧ aplan P T ops D p .same σ (Q .normal)
  | .seq a b, Q, σ => awp P T a (fun e σ' => match e with | .normal => awp P T b Q σ' ∨ ∃ ks js, σ'.good js ∧ awp P T b Q (σ'.keep ks js) | e => Q e σ') σ
  | .cond c x y, Q, σ => acond (strip (σ.ev c)) (awp P T x Q σ) (awp P T y Q σ)
  | .block id c, Q, σ => awp P T c (fun e σ' => match e with | .exit i => if i = id then Q .normal σ' else Q (.exit i) σ' | e => Q e σ') σ
  | .loop c, Q, σ => ∃ (ks js : List Nat) (I : Nat → St → Prop) (n : Nat), σ.good js ∧ I n (σ.keep ks js) ∧ ∀ n σ', I n σ' → awp P T c (fun e s => match e with | .normal => ∃ m js', m < n ∧ s.good js' ∧ I m (s.keep ks js') | e => Q e s) σ'
  | .exit id, Q, σ => Q (.exit id) σ
  | .ret, Q, σ => Q .ret σ
  | .scope c, Q, σ => awp P T c Q σ
  | _, _, _ => False
end Go.Proofs.YtdedmhmomoejkaaDoor.V
