import Derived.Below
import Derived.Deep.Draws
import Derived.Deep.AppendLies
import Derived.Maps.AppendAt
import Derived.OwnWalk
import Derived.Laws.BytesArg
import Derived.Laws.MakeOwn
import Derived.Laws.OwnMore
import Derived.Deep.OwnRows
import Derived.Tactics
import Derived.Lib.ConvBytes
import Derived.Laws.Slices
import Derived.WalkKit
import Derived.KernelRfl
import Derived.RowKit3
import Derived.Deep.LoopGhost
import Derived.Deep.QuietTactic
import Derived.BigQuiet
import Derived.WideLaws
import Derived.Deep.DeepCutAuto
import Derived.Deep.CutBlock
import Derived.Deep.RegionHeld3
import Derived.Laws.Rows
import Derived.Lib.AppendStr
import Derived.ArgAppend
import Derived.Laws.IdiomCopy
import Derived.OrdersHeld
import Derived.Laws.BitsLemmas
import Derived.RowKit
import Derived.Laws.Cover1
import Derived.Shelf.Abstract

import Derived.Test.YthinpbnnpelhhaaGreatDoorWLast
import Derived.Test.YthinpbnnpelhhaaGreatDoorWTab
import Derived.Test.YthinpbnnpelhhaaGreatDoorV0
import Derived.Lib.OthersKept
namespace Go.Proofs.YthinpbnnpelhhaaGreatDoor.V
open Go Go.RowKit Go.Proofs.YthinpbnnpelhhaaGreatDoorW.PrintLast
set_option linter.unusedVariables false
set_option linter.unusedSimpArgs false
/-! A second reading of the code: what a call computes, told by the content of its memory (values, lists), not by places. First part: the words. -/
/-- What a cell that is never written again holds. any: whatever; ifc: a value of an interface's type that is not nil. -/
inductive C where
  | v (x : Value)
  | sl (n sz : Nat) (f : Nat → Nat → C)
  | any
  | ifc
/-- What a register, or a cell of own memory, holds. ptr: own variable 'id', cell 'off'; ep: own row 'id', element i, its cell off; rp: n cells that are never written again; own: own row 'id', n elements from number o on. -/
inductive L where
  | c (x : C)
  | ptr (id off : Nat)
  | ep (id sz i off : Nat)
  | rp (n : Nat) (f : Nat → C)
  | own (id sz o n : Nat)
  | fn (f : FuncId) (caps : List Nat)
  | junk
inductive A where
  | one (l : L)
  | agg (ls : List L)
  | tup (xs : List (List L × Bool))
  | opt (g : Bool) (a : A)
inductive B where
  | var (ls : List L) (t : TypeId)
  | arr (es : List (List L)) (sz : Nat) (t : TypeId)
  | iter (s : ByteArray) (p : Nat)
  | hid
inductive TK where
  | prim (d : TypeDesc)
  | struct (fs : List (Nat × TypeId)) (eq : Bool)
  | slice (e : TypeId)
  | array (n : Nat) (e : TypeId)
structure TI where
  k : TK
  size : Nat
  bytes : Nat
  zero : List Value
abbrev Ty := TypeId → Option TI
/-- m: so many of the own blocks are lent by the caller. -/
structure St where
  nt : Nat
  m : Nat
  tm : List (Nat × A)
  bx : List B
abbrev A.v (x : Value) : A := .one (.c (.v x))
abbrev A.int (k : IntKind) (n : Int) : A := .one (.c (.v (.int k n)))
abbrev A.bool (b : Bool) : A := .one (.c (.v (.bool b)))
abbrev A.str (s : ByteArray) : A := .one (.c (.v (.string s)))
abbrev A.junk : A := .one .junk
def ofV : Value → A
  | .agg cs => .agg (cs.toList.map fun x => .c (.v x))
  | x => .one (.c (.v x))
def lk : List (Nat × A) → Nat → A
  | [], _ => .one .junk
  | (t, a) :: r, n => if t = n then a else lk r n
def St.ev (σ : St) : Operand → A
  | .tmp t => lk σ.tm t
  | .const v => ofV v
  | .func f => .one (.fn f [])
  | .global _ => .one .junk
def St.put (σ : St) (d : Nat) (a : A) : St := if d < σ.nt then { σ with tm := (d, a) :: σ.tm } else σ
def St.putO (σ : St) : Option Nat → A → St
  | some d, a => σ.put d a
  | none, _ => σ
/-- Is it there, and what it is then. -/
def strip : A → Bool × A
  | .opt g a => (g && (strip a).1, (strip a).2)
  | a => (true, a)
def Ty.size (T : Ty) (t : TypeId) : Nat := match T t with | some i => i.size | none => 0
def TI.agg (i : TI) : Bool := match i.k with | .struct _ _ => true | .array _ _ => true | _ => false
def Ty.isAgg (T : Ty) (t : TypeId) : Bool := match T t with | some i => i.agg | none => false
def Ty.known (T : Ty) (t : TypeId) : Bool := (T t).isSome
/-- A value of a type, of its cells. -/
def mk (T : Ty) (t : TypeId) (ls : List L) : A := if T.isAgg t then .agg ls else .one (ls.headD .junk)
def fcells (f : Nat → C) (o : Nat) : Nat → List L
  | 0 => []
  | n + 1 => .c (f o) :: fcells f (o + 1) n
/-- The cells of a value. -/
def leaves : A → List L
  | .agg ls => ls
  | .one l => [l]
  | _ => []
def iop (op : BinOp) (k : IntKind) (a : Int) (k' : IntKind) (b : Int) : Prop × Value :=
  match op with
  | .add => (k = k', .int k (k.wrap (a + b)))
  | .sub => (k = k', .int k (k.wrap (a - b)))
  | .mul => (k = k', .int k (k.wrap (a * b)))
  | .quo => (k = k' ∧ b ≠ 0, .int k (k.wrap (a.tdiv b)))
  | .rem => (k = k' ∧ b ≠ 0, .int k (a.tmod b))
  | .and => (k = k', .int k (k.wrap (BitVec.ofInt k.bits a &&& BitVec.ofInt k.bits b).toNat))
  | .or => (k = k', .int k (k.wrap (BitVec.ofInt k.bits a ||| BitVec.ofInt k.bits b).toNat))
  | .xor => (k = k', .int k (k.wrap (BitVec.ofInt k.bits a ^^^ BitVec.ofInt k.bits b).toNat))
  | .shl => (0 ≤ b, .int k (k.wrap (a * 2 ^ min b.toNat k.bits)))
  | .shr => (0 ≤ b, .int k (a.fdiv (2 ^ min b.toNat k.bits)))
  | .eql => (k = k', .bool (decide (a = b)))
  | .neq => (k = k', .bool (!decide (a = b)))
  | .lss => (k = k', .bool (decide (a < b)))
  | .leq => (k = k', .bool (decide (a ≤ b)))
  | .gtr => (k = k', .bool (decide (b < a)))
  | .geq => (k = k', .bool (decide (b ≤ a)))
  | _ => (False, undef)
def sop (op : BinOp) (x y : ByteArray) : Prop × Value :=
  match op with
  | .add => (x.size + y.size ≤ 9223372036854775807, .string (x ++ y))
  | .eql => (True, .bool (decide (x = y)))
  | .neq => (True, .bool (!decide (x = y)))
  | .lss => (True, .bool (Op.bytesLess x.toList y.toList))
  | .leq => (True, .bool (Op.bytesLess x.toList y.toList || decide (x = y)))
  | .gtr => (True, .bool (!(Op.bytesLess x.toList y.toList || decide (x = y))))
  | .geq => (True, .bool (!Op.bytesLess x.toList y.toList))
  | _ => (False, undef)
/-- Are two values of a type the same? -/
def eqv (T : Ty) : Nat → TypeId → A → A → Prop × Bool
  | 0, _, _, _ => (False, false)
  | d + 1, t, x, y => match T t with
    | some ⟨.prim (.int _), _, _, _⟩ => match x, y with
      | .one (.c (.v (.int k a))), .one (.c (.v (.int k' b))) => (k = k', decide (a = b))
      | _, _ => (False, false)
    | some ⟨.prim .bool, _, _, _⟩ => match x, y with
      | .one (.c (.v (.bool a))), .one (.c (.v (.bool b))) => (True, a == b)
      | _, _ => (False, false)
    | some ⟨.prim .string, _, _, _⟩ => match x, y with
      | .one (.c (.v (.string a))), .one (.c (.v (.string b))) => (True, decide (a = b))
      | _, _ => (False, false)
    | some ⟨.prim (.pointer _), _, _, _⟩ => match x, y with
      | .one (.ptr _ _), .one (.c (.v (.pointer none))) => (True, false)
      | .one (.c (.v (.pointer none))), .one (.ptr _ _) => (True, false)
      | .one (.rp _ _), .one (.c (.v (.pointer none))) => (True, false)
      | .one (.c (.v (.pointer none))), .one (.c (.v (.pointer none))) => (True, true)
      | _, _ => (False, false)
    | some ⟨.struct fs true, _, _, _⟩ => match x, y with
      | .agg xs, .agg ys => fs.foldr (fun f r =>
        (T.known f.2 = true ∧ f.1 + T.size f.2 ≤ xs.length ∧ f.1 + T.size f.2 ≤ ys.length ∧ 0 < T.size f.2 ∧
          (eqv T d f.2 (mk T f.2 ((xs.drop f.1).take (T.size f.2))) (mk T f.2 ((ys.drop f.1).take (T.size f.2)))).1 ∧ r.1,
          (eqv T d f.2 (mk T f.2 ((xs.drop f.1).take (T.size f.2))) (mk T f.2 ((ys.drop f.1).take (T.size f.2)))).2 && r.2)) (True, true)
      | _, _ => (False, false)
    | _ => (False, false)
/-- Is it the operand that is written out? -/
def isLit : Operand → Bool
  | .const _ => true
  | _ => false
def isIfc (T : Ty) (t : TypeId) : Bool := match T t with
  | some ⟨.prim (.interface _), _, _, _⟩ => true
  | _ => false
/-- Of an interface's type: is it nil? -/
def pIfc (x y : A) : Option Bool :=
  match x, y with
  | .one (.c .ifc), .one (.c (.v .nilIface)) => some false
  | .one (.c (.v .nilIface)), .one (.c .ifc) => some false
  | .one (.c (.v .nilIface)), .one (.c (.v .nilIface)) => some true
  | _, _ => none
def pEqI (lit : Bool) (op : BinOp) (x y : Bool × A) : Prop × A :=
  match op, pIfc x.2 y.2 with
  | .eql, some b => (x.1 = true ∧ y.1 = true ∧ (b = true → lit = true), .bool b)
  | .neq, some b => (x.1 = true ∧ y.1 = true ∧ (b = true → lit = true), .bool (!b))
  | _, _ => (False, .junk)
def pEq (T : Ty) (t : TypeId) (op : BinOp) (x y : Bool × A) : Prop × A :=
  match op with
  | .eql => (x.1 = true ∧ y.1 = true ∧ (eqv T 10 t x.2 y.2).1, .bool (eqv T 10 t x.2 y.2).2)
  | .neq => (x.1 = true ∧ y.1 = true ∧ (eqv T 10 t x.2 y.2).1, .bool (!(eqv T 10 t x.2 y.2).2))
  | _ => (False, .junk)
/-- An operation that neither writes nor calls: what it asks, and what it yields. -/
def pBin (T : Ty) (t : TypeId) (op : BinOp) (lit : Bool) (x y : Bool × A) : Prop × A :=
  match x, y with
  | (g, .one (.c (.v (.int k a)))), (g', .one (.c (.v (.int k' b)))) => (g = true ∧ g' = true ∧ (iop op k a k' b).1, .v (iop op k a k' b).2)
  | (g, .one (.c (.v (.string a)))), (g', .one (.c (.v (.string b)))) => (g = true ∧ g' = true ∧ (sop op a b).1, .v (sop op a b).2)
  | x, y => if isIfc T t then pEqI lit op x y else pEq T t op x y
def pickV (t : Bool) : A → A → A
  | .one (.c (.v (.bool a))), .one (.c (.v (.bool b))) => .bool (bif t then a else b)
  | .one (.c (.v (.int k a))), .one (.c (.v (.int k' b))) => if k = k' then .int k (bif t then a else b) else bif t then .int k a else .int k' b
  | a, b => bif t then a else b
def pPick (c x y : Bool × A) : Prop × A :=
  match c with
  | (g, .one (.c (.v (.bool t)))) => (g = true ∧ (t = true → x.1 = true) ∧ (t = false → y.1 = true), pickV t x.2 y.2)
  | _ => (False, .junk)
def pNot (x : Bool × A) : Prop × A :=
  match x with
  | (g, .one (.c (.v (.bool b)))) => (g = true, .bool (!b))
  | _ => (False, .junk)
def pNeg (x : Bool × A) : Prop × A :=
  match x with
  | (g, .one (.c (.v (.int k n)))) => (g = true, .int k (k.wrap (0 - n)))
  | _ => (False, .junk)
def pNil (x : Bool × A) : Prop × A :=
  match x with
  | (g, .one (.ptr i o)) => (g = true, .one (.ptr i o))
  | (g, .one (.ep i sz k o)) => (g = true, .one (.ep i sz k o))
  | (g, .one (.rp n f)) => (g = true, .one (.rp n f))
  | (g, .one (.fn f c)) => (g = true, .one (.fn f c))
  | _ => (False, .junk)
def pConv (T : Ty) (s d : TypeId) (x : Bool × A) : Prop × A :=
  match T s, T d, x with
  | some ⟨.prim (.int _), _, _, _⟩, some ⟨.prim (.int k), _, _, _⟩, (g, .one (.c (.v (.int _ n)))) => (g = true, .int k (k.wrap n))
  | _, _, _ => (False, .junk)
def pLoad (T : Ty) (bx : List B) (t : TypeId) (x : Bool × A) : Prop × A :=
  match x with
  | (g, .one (.ptr id off)) => match bx[id]? with
    | some (.var ls _) => (g = true ∧ T.known t = true ∧ off + T.size t ≤ ls.length ∧ 0 < T.size t, mk T t ((ls.drop off).take (T.size t)))
    | _ => (False, .junk)
  | (g, .one (.ep id sz i off)) => match bx[id]? with
    | some (.arr es sz' _) => (g = true ∧ T.known t = true ∧ sz = sz' ∧ i < es.length ∧ off + T.size t ≤ sz ∧ 0 < T.size t, mk T t (((es.getD i []).drop off).take (T.size t)))
    | _ => (False, .junk)
  | (g, .one (.rp n f)) => (g = true ∧ T.known t = true ∧ T.size t ≤ n ∧ 0 < T.size t, mk T t (fcells f 0 (T.size t)))
  | _ => (False, .junk)
def pFieldAddr (T : Ty) (s : TypeId) (x : Bool × A) (k : Nat) : Prop × A :=
  match T s with
  | some ⟨.struct fs _, _, _, _⟩ => match fs[k]? with
    | some (o, ft) => match x with
      | (g, .one (.ptr id off)) => (g = true ∧ 0 < T.size ft, .one (.ptr id (off + o)))
      | (g, .one (.ep id sz i off)) => (g = true ∧ 0 < T.size ft, .one (.ep id sz i (off + o)))
      | (g, .one (.rp n f)) => (g = true ∧ 0 < T.size ft, .one (.rp (n - o) (fun j => f (o + j))))
      | _ => (False, .junk)
    | none => (False, .junk)
  | _ => (False, .junk)
def pField (T : Ty) (s : TypeId) (x : Bool × A) (k : Nat) : Prop × A :=
  match T s with
  | some ⟨.struct fs _, _, _, _⟩ => match fs[k]? with
    | some (o, ft) => match x with
      | (g, .agg ls) => (g = true ∧ T.known ft = true ∧ o + T.size ft ≤ ls.length ∧ 0 < T.size ft, mk T ft ((ls.drop o).take (T.size ft)))
      | _ => (False, .junk)
    | none => (False, .junk)
  | _ => (False, .junk)
def pIndexAddr (T : Ty) (t : TypeId) (x i : Bool × A) : Prop × A :=
  match T t with
  | some ⟨.slice e, _, _, _⟩ => match x, i with
    | (g, .one (.c (.sl n sz f))), (g', .one (.c (.v (.int _ k)))) => (g = true ∧ g' = true ∧ T.known e = true ∧ T.size e = sz ∧ 0 < sz ∧ 0 ≤ k ∧ k < n, .one (.rp sz (f k.toNat)))
    | (g, .one (.own id sz o n)), (g', .one (.c (.v (.int _ k)))) => (g = true ∧ g' = true ∧ T.known e = true ∧ T.size e = sz ∧ 0 ≤ k ∧ k < n, .one (.ep id sz (o + k.toNat) 0))
    | _, _ => (False, .junk)
  | _ => (False, .junk)
def pIndex (T : Ty) (t : TypeId) (x i : Bool × A) : Prop × A :=
  match T t with
  | some ⟨.prim .string, _, _, _⟩ => match x, i with
    | (g, .one (.c (.v (.string s)))), (g', .one (.c (.v (.int _ k)))) => (g = true ∧ g' = true ∧ 0 ≤ k ∧ k < s.size, .int .u8 ((s.data.getD k.toNat 0).toNat : Int))
    | _, _ => (False, .junk)
  | _ => (False, .junk)
def pExtract (x : Bool × A) (i : Nat) : Prop × A :=
  match x with
  | (g, .tup xs) => match xs[i]? with
    | some (ls, true) => (g = true, .agg ls)
    | some ([l], false) => (g = true, .one l)
    | _ => (False, .junk)
  | _ => (False, .junk)
def pLen (T : Ty) (t : TypeId) (x : Bool × A) : Prop × A :=
  match T t, x with
  | some ⟨.prim .string, _, _, _⟩, (g, .one (.c (.v (.string s)))) => (g = true, .int .i64 (s.size : Int))
  | some ⟨.slice _, _, _, _⟩, (g, .one (.c (.sl n _ _))) => (g = true, .int .i64 (n : Int))
  | some ⟨.slice _, _, _, _⟩, (g, .one (.c (.v (.slice _ n _)))) => (g = true, .int .i64 (n : Int))
  | some ⟨.slice _, _, _, _⟩, (g, .one (.own _ _ _ n)) => (g = true, .int .i64 (n : Int))
  | _, _ => (False, .junk)
/-- min, max of two. -/
def pMin (mx : Bool) (x y : Bool × A) : Prop × A :=
  match x, y with
  | (g, .one (.c (.v (.int k a)))), (g', .one (.c (.v (.int _ b)))) => (g = true ∧ g' = true, .int k (if mx then (if a < b then b else a) else (if b < a then b else a)))
  | _, _ => (False, .junk)
def bound (x : Option (Bool × A)) (d : Int) : Prop × Int :=
  match x with
  | none => (True, d)
  | some (g, .one (.c (.v (.int _ k)))) => (g = true, k)
  | some _ => (False, 0)
def pSlice (T : Ty) (t : TypeId) (x : Bool × A) (lo hi : Option (Bool × A)) : Prop × A :=
  match T t, x with
  | some ⟨.prim .string, _, _, _⟩, (g, .one (.c (.v (.string s)))) =>
    (g = true ∧ (bound lo 0).1 ∧ (bound hi s.size).1 ∧ 0 ≤ (bound lo 0).2 ∧ (bound lo 0).2 ≤ (bound hi s.size).2 ∧ (bound hi s.size).2 ≤ s.size, .str (s.extract (bound lo 0).2.toNat (bound hi s.size).2.toNat))
  | some ⟨.slice e, _, _, _⟩, (g, .one (.c (.sl n sz f))) =>
    (g = true ∧ T.known e = true ∧ T.size e = sz ∧ (bound lo 0).1 ∧ (bound hi n).1 ∧ 0 ≤ (bound lo 0).2 ∧ (bound lo 0).2 ≤ (bound hi n).2 ∧ (bound hi n).2 ≤ n,
      .one (.c (.sl ((bound hi n).2.toNat - (bound lo 0).2.toNat) sz (fun i => f ((bound lo 0).2.toNat + i)))))
  | some ⟨.slice e, _, _, _⟩, (g, .one (.own id sz o n)) =>
    (g = true ∧ T.known e = true ∧ T.size e = sz ∧ (bound lo 0).1 ∧ (bound hi n).1 ∧ 0 ≤ (bound lo 0).2 ∧ (bound lo 0).2 ≤ (bound hi n).2 ∧ (bound hi n).2 ≤ n ∧ ((bound lo 0).2 = 0 ∨ (bound lo 0).2 < n),
      .one (.own id sz (o + (bound lo 0).2.toNat) ((bound hi n).2.toNat - (bound lo 0).2.toNat)))
  | _, _ => (False, .junk)
/-- May it lie in one cell? -/
def lcell : L → Bool
  | .c (.v x) => x.oneCell'
  | .c .any => false
  | .junk => false
  | _ => true
def whole : A → Bool
  | .agg _ => true
  | .one l => lcell l
  | _ => false
def fillL (place : Nat → Option (Nat × Nat)) (cells : List L) : List (Nat × Bool × A) → Option (Prop × List L)
  | [] => some (True, cells)
  | (i, g, a) :: rest => match place i with
    | some (off, size) => if (leaves a).length = size ∧ off + size ≤ cells.length then
        (fillL place (cells.take off ++ leaves a ++ cells.drop (off + size)) rest).map fun r => (g = true ∧ whole a = true ∧ r.1, r.2) else none
    | none => none
def pBuild (T : Ty) (t : TypeId) (ps : List (Nat × Bool × A)) : Prop × A :=
  match T t with
  | some ⟨.struct fs _, _, _, z⟩ => match fillL (fun i => (fs[i]?).map fun p => (p.1, T.size p.2)) (z.map fun x => .c (.v x)) ps with
    | some (p, ls) => (p ∧ (fs.all fun p => T.known p.2) = true, .agg ls)
    | none => (False, .junk)
  | _ => (False, .junk)
/-- The operations that only read. -/
def pure? (T : Ty) (σ : St) (op : Op) : Option (Prop × A) :=
  match op with
  | .move x | .assign x => some (True, σ.ev x)
  | .pick c x y => some (pPick (strip (σ.ev c)) (strip (σ.ev x)) (strip (σ.ev y)))
  | .binOp op t x y _ => some (pBin T t op (isLit x || isLit y) (strip (σ.ev x)) (strip (σ.ev y)))
  | .unOp .not _ x => some (pNot (strip (σ.ev x)))
  | .unOp .neg _ x => some (pNeg (strip (σ.ev x)))
  | .nilCheck x => some (pNil (strip (σ.ev x)))
  | .load t x => some (pLoad T σ.bx t (strip (σ.ev x)))
  | .fieldAddr s x k => some (pFieldAddr T s (strip (σ.ev x)) k)
  | .field s x k => some (pField T s (strip (σ.ev x)) k)
  | .indexAddr t x i => some (pIndexAddr T t (strip (σ.ev x)) (strip (σ.ev i)))
  | .index t x i => some (pIndex T t (strip (σ.ev x)) (strip (σ.ev i)))
  | .extract x i => some (pExtract (strip (σ.ev x)) i)
  | .slice t x lo hi none => some (pSlice T t (strip (σ.ev x)) (lo.map fun y => strip (σ.ev y)) (hi.map fun y => strip (σ.ev y)))
  | .build t ps => some (pBuild T t (ps.toList.map fun p => (p.1, strip (σ.ev p.2))))
  | .convert s d x => match T s, T d with
    | some ⟨.prim (.int _), _, _, _⟩, some ⟨.prim (.int _), _, _, _⟩ => some (pConv T s d (strip (σ.ev x)))
    | _, _ => none
  | .call ⟨.builtin .len, xs, ts⟩ => match xs.toList, ts.toList with
    | [x], [t] => some (pLen T t (strip (σ.ev x)))
    | _, _ => none
  | .call ⟨.builtin .min, xs, _⟩ => match xs.toList with
    | [x, y] => some (pMin false (strip (σ.ev x)) (strip (σ.ev y)))
    | _ => none
  | .call ⟨.builtin .max, xs, _⟩ => match xs.toList with
    | [x, y] => some (pMin true (strip (σ.ev x)) (strip (σ.ev y)))
    | _ => none
  | _ => none
/-! Second part: what the words mean in memory. -/
/-- A cell's content. ok: the blocks that are never written again. -/
def RC (ok : Nat → Prop) (w : World) : C → Value → Prop
  | .v x, u => u = x
  | .sl n sz f, u => ∃ (a : Option Addr) (cap : Nat), u = .slice a n cap ∧ (n ≤ cap ∧ n ≤ 9223372036854775807) ∧
      ∀ i, i < n → ∀ j, j < sz → ∃ b v, a = some b ∧ ok b.block ∧ w.cell? (b.add (i * sz + j)) = some v ∧ RC ok w (f i j) v
  | .any, _ => True
  | .ifc, u => ∃ t x, u = .iface t x
def RL (μ : List Nat) (ok : Nat → Prop) (w : World) : L → Value → Prop
  | .c x, u => RC ok w x u
  | .ptr id off, u => ∃ g, μ[id]? = some g ∧ u = .pointer (some ⟨g, off, none⟩)
  | .ep id sz i off, u => ∃ g, μ[id]? = some g ∧ u = .pointer (some ⟨g, i * sz + off, none⟩)
  | .rp n f, u => ∃ b, u = .pointer (some b) ∧ ok b.block ∧ ∀ j, j < n → ∃ v, w.cell? (b.add j) = some v ∧ RC ok w (f j) v
  | .own id sz o n, u => ∃ g cap cs t, μ[id]? = some g ∧ u = .slice (some ⟨g, o * sz, none⟩) n cap ∧ n ≤ cap ∧ w.heap[g]? = some (.cells cs t (0, 0)) ∧ cs.size = (o + cap) * sz
  | .fn f caps, u => ∃ gs : List Nat, gs.length = caps.length ∧ (∀ (j : Nat) id, caps[j]? = some id → ∃ g, gs[j]? = some g ∧ μ[id]? = some g) ∧ u = .func (.func f) #[] (gs.map fun g => Value.pointer (some ⟨g, 0, none⟩)).toArray
  | .junk, _ => True
def RLs (R : L → Value → Prop) (ls : List L) (cs : List Value) : Prop := ls.length = cs.length ∧ ∀ (j : Nat) l, ls[j]? = some l → ∃ v, cs[j]? = some v ∧ R l v
def RV (R : L → Value → Prop) (x : List L × Bool) (u : Value) : Prop := (x.2 = true → ∃ cs : Array Value, u = .agg cs ∧ RLs R x.1 cs.toList) ∧ (x.2 = false → ∃ l, x.1 = [l] ∧ R l u)
def RA (R : L → Value → Prop) : A → Value → Prop
  | .one l, u => R l u
  | .agg ls, u => ∃ cs : Array Value, u = .agg cs ∧ RLs R ls cs.toList
  | .tup xs, u => ∃ vs : Array Value, u = .tuple vs ∧ xs.length = vs.size ∧ ∀ (j : Nat) x, xs[j]? = some x → ∃ v, vs[j]? = some v ∧ RV R x v
  | .opt g a, u => (g = true → RA R a u) ∧ (g = false → u = undef)
def BoxR (μ : List Nat) (ok : Nat → Prop) (w : World) (g : Nat) : B → Prop
  | .var ls t => ∃ cs, w.heap[g]? = some (.cells cs t (0, 0)) ∧ RLs (RL μ ok w) ls cs.toList
  | .hid => True
  | .arr es sz t => ∃ cs cap, w.heap[g]? = some (.cells cs t (0, 0)) ∧ cs.size = cap * sz ∧ es.length ≤ cap ∧ cap ≤ maxLen ∧
      ∀ (i : Nat) e, es[i]? = some e → e.length = sz ∧ ∀ (j : Nat) x, e[j]? = some x → ∃ v, cs[i * sz + j]? = some v ∧ RL μ ok w x v
  | .iter s p => w.heap[g]? = some (.stringIter s p)
/-- The call's own memory, and what is never written again. -/
structure Mem (μ : List Nat) (ok : Nat → Prop) (bx : List B) (w : World) : Prop where
  len : μ.length = bx.length
  nd : ∀ (i j : Nat) b b' g, bx[i]? = some b → bx[j]? = some b' → b ≠ .hid → b' ≠ .hid → μ[i]? = some g → μ[j]? = some g → i = j
  live : ∀ (i : Nat) b g, bx[i]? = some b → μ[i]? = some g → b ≠ .hid → ¬ ok g
  there : ∀ g, g ∈ μ → g < w.heap.size
  small : ∀ k, ok k → k < w.heap.size
  box : ∀ (i : Nat) b g, bx[i]? = some b → μ[i]? = some g → BoxR μ ok w g b
  gl : Gl ok w
structure Rl (μ : List Nat) (ok : Nat → Prop) (σ : St) (a : Act) (w : World) : Prop where
  mem : Mem μ ok σ.bx w
  nt : a.tmps.size = σ.nt
  tm : ∀ t, RA (RL μ ok w) (lk σ.tm t) (a.tmps.getD t undef)
  df : a.defers = []
/-- The types, as the program has them. -/
structure TyOK (P : Program) (t : TypeId) (i : TI) : Prop where
  kind : match i.k with
    | .prim d => P.underlying t = some d ∧ (∀ fs, d ≠ .struct fs) ∧ (∀ n e, d ≠ .array n e)
    | .struct fs e => ∃ fa : Array Field, P.underlying t = some (.struct fa) ∧ fa.toList.map (fun f => (f.offset, f.type)) = fs ∧
        (e = true → P.stoodInHeld t = false ∧ P.eqGuardType P.depth t = false ∧ (fa.toList.all fun f => f.name != "_") = true)
    | .slice e => P.underlying t = some (.slice e)
    | .array n e => P.underlying t = some (.array n e)
  zl : i.zero.length = i.size
  info : ∃ (j : TypeInfo) (z : Value), P.info? t = some j ∧ j.size = i.size ∧ j.bytes = i.bytes ∧ j.zero = some z ∧ z.cells.toList = i.zero
/-- What a call leaves as it was: all but the blocks that are lent, and these keep their form. -/
structure Fw (μ : List Nat) (w w' : World) : Prop where
  os : w'.os = w.os
  tape : w'.tape = w.tape
  output : w'.output = w.output
  size : w.heap.size ≤ w'.heap.size
  block : ∀ k, k < w.heap.size → k ∉ μ → w'.heap[k]? = w.heap[k]?
  kept : ∀ k, k < w.heap.size → ∀ cs t, w.heap[k]? = some (.cells cs t (0, 0)) → ∃ cs', w'.heap[k]? = some (.cells cs' t (0, 0)) ∧ cs'.size = cs.size
theorem Fw.refl (μ : List Nat) (w : World) : Fw μ w w := ⟨rfl, rfl, rfl, Nat.le_refl _, fun _ _ _ => rfl, fun _ _ cs _ h => ⟨cs, h, rfl⟩⟩
theorem Fw.below {w w' : World} (h : Fw [] w w') : Below w.heap.size w w' := ⟨h.os, h.tape, h.output, h.size, fun k hk => h.block k hk (by simp)⟩
theorem Fw.of {w w' : World} (μ : List Nat) (h : Below w.heap.size w w') : Fw μ w w' := ⟨h.os, h.tape, h.output, h.size, fun k hk _ => h.block k hk, fun k hk cs t e => ⟨cs, by rw [h.block k hk]; exact e, rfl⟩⟩
theorem Fw.trans {μ : List Nat} {a b c : World} (h : Fw μ a b) (k : Fw μ b c) : Fw μ a c :=
  ⟨k.os.trans h.os, k.tape.trans h.tape, k.output.trans h.output, Nat.le_trans h.size k.size, fun i hi hm => (k.block i (Nat.lt_of_lt_of_le hi h.size) hm).trans (h.block i hi hm), fun i hi cs t e => by
    obtain ⟨cs', h1, h2⟩ := h.kept i hi cs t e
    obtain ⟨cs2, h3, h4⟩ := k.kept i (Nat.lt_of_lt_of_le hi h.size) cs' t h1
    exact ⟨cs2, h3, h4.trans h2⟩⟩
/-- One stretch behind another, that may turn its own new blocks, too. -/
theorem Fw.step {μ ν : List Nat} {a b c : World} (h : Fw μ a b) (k : Fw ν b c) (hν : ∀ g, g ∈ ν → g ∈ μ ∨ a.heap.size ≤ g) : Fw μ a c :=
  ⟨k.os.trans h.os, k.tape.trans h.tape, k.output.trans h.output, Nat.le_trans h.size k.size, fun i hi hm => (k.block i (Nat.lt_of_lt_of_le hi h.size) (fun hn => by
      rcases hν i hn with h' | h'
      · exact hm h'
      · omega)).trans (h.block i hi hm), fun i hi cs t e => by
    obtain ⟨cs', h1, h2⟩ := h.kept i hi cs t e
    obtain ⟨cs2, h3, h4⟩ := k.kept i (Nat.lt_of_lt_of_le hi h.size) cs' t h1
    exact ⟨cs2, h3, h4.trans h2⟩⟩
theorem add_add (a : Addr) (m j : Nat) : (a.add m).add j = a.add (m + j) := by
  unfold Addr.add
  by_cases hm : m = 0
  · subst hm; simp
  · by_cases hj : j = 0
    · subst hj; simp
    · have h : m + j ≠ 0 := by omega
      simp [hm, hj, Nat.add_assoc]
theorem add_block (a : Addr) (m : Nat) : (a.add m).block = a.block := by
  unfold Addr.add
  split <;> rfl
theorem add_zero (a : Addr) : a.add 0 = a := by simp [Addr.add]
theorem add_lit (g o m : Nat) : (⟨g, o, none⟩ : Addr).add m = ⟨g, o + m, none⟩ := by
  unfold Addr.add
  by_cases hm : m = 0
  · subst hm; simp
  · simp [hm]
theorem cell_congr {w w' : World} {a : Addr} (h : w'.heap[a.block]? = w.heap[a.block]?) : w'.cell? a = w.cell? a := by
  unfold World.cell?
  rw [h]
theorem RC.congr {ok ok' : Nat → Prop} {w w' : World} (hk : ∀ k, ok k → ok' k) (hw : ∀ k, ok k → w'.heap[k]? = w.heap[k]?) : ∀ (x : C) (u : Value), RC ok w x u → RC ok' w' x u
  | .v _, _, h => h
  | .sl n sz f, u, h => by
    obtain ⟨a, cap, hu, hn, hc⟩ := h
    refine ⟨a, cap, hu, hn, fun i hi j hj => ?_⟩
    obtain ⟨b, v, hb, ho, hv, hr⟩ := hc i hi j hj
    refine ⟨b, v, hb, hk _ ho, ?_, RC.congr hk hw _ _ hr⟩
    rw [cell_congr (w := w) (w' := w') (a := b.add (i * sz + j)) (by rw [add_block]; exact hw _ ho)]
    exact hv
  | .any, _, _ => trivial
  | .ifc, _, h => h
theorem RL.congr {μ μ' : List Nat} {ok ok' : Nat → Prop} {w w' : World} (hm : ∀ (i : Nat) g, μ[i]? = some g → μ'[i]? = some g) (hk : ∀ k, ok k → ok' k) (hw : ∀ k, ok k → w'.heap[k]? = w.heap[k]?)
    (ho : ∀ g, g ∈ μ → ∀ cs t, w.heap[g]? = some (.cells cs t (0, 0)) → ∃ cs', w'.heap[g]? = some (.cells cs' t (0, 0)) ∧ cs'.size = cs.size) (l : L) (u : Value) (h : RL μ ok w l u) : RL μ' ok' w' l u := by
  cases l with
  | c x => exact RC.congr hk hw x u h
  | ptr id off => obtain ⟨g, h1, h2⟩ := h; exact ⟨g, hm _ _ h1, h2⟩
  | ep id sz i off => obtain ⟨g, h1, h2⟩ := h; exact ⟨g, hm _ _ h1, h2⟩
  | rp n f =>
    obtain ⟨b, h1, h2, h3⟩ := h
    refine ⟨b, h1, hk _ h2, fun j hj => ?_⟩
    obtain ⟨v, hv, hr⟩ := h3 j hj
    refine ⟨v, ?_, RC.congr hk hw _ _ hr⟩
    rw [cell_congr (w := w) (w' := w') (a := b.add j) (by rw [add_block]; exact hw _ h2)]
    exact hv
  | own id sz o n =>
    obtain ⟨g, cap, cs, t, h1, h2, h3, h4, h5⟩ := h
    obtain ⟨cs', h6, h7⟩ := ho g (List.mem_of_getElem? h1) cs t h4
    exact ⟨g, cap, cs', t, hm _ _ h1, h2, h3, h6, by rw [h7]; exact h5⟩
  | fn f caps =>
    obtain ⟨gs, h1, h2, h3⟩ := h
    refine ⟨gs, h1, fun j id hj => ?_, h3⟩
    obtain ⟨g, h4, h5⟩ := h2 j id hj
    exact ⟨g, h4, hm _ _ h5⟩
  | junk => trivial
theorem RLs.mono {R R' : L → Value → Prop} (h : ∀ l u, R l u → R' l u) {ls : List L} {cs : List Value} (hr : RLs R ls cs) : RLs R' ls cs :=
  ⟨hr.1, fun j l hj => let ⟨v, h1, h2⟩ := hr.2 j l hj; ⟨v, h1, h l v h2⟩⟩
theorem RV.mono {R R' : L → Value → Prop} (h : ∀ l u, R l u → R' l u) {x : List L × Bool} {u : Value} (hr : RV R x u) : RV R' x u :=
  ⟨fun hx => let ⟨cs, h1, h2⟩ := hr.1 hx; ⟨cs, h1, h2.mono h⟩, fun hx => let ⟨l, h1, h2⟩ := hr.2 hx; ⟨l, h1, h _ _ h2⟩⟩
theorem RA_mono {R R' : L → Value → Prop} (h : ∀ l u, R l u → R' l u) : ∀ (a : A) (u : Value), RA R a u → RA R' a u
  | .one l, u, hr => by rw [RA] at hr ⊢; exact h l u hr
  | .agg ls, u, hr => by
    rw [RA] at hr ⊢
    obtain ⟨cs, h1, h2⟩ := hr
    exact ⟨cs, h1, h2.mono h⟩
  | .tup xs, u, hr => by
    rw [RA] at hr ⊢
    obtain ⟨vs, h1, h2, h3⟩ := hr
    refine ⟨vs, h1, h2, fun j x hj => ?_⟩
    obtain ⟨v, h4, h5⟩ := h3 j x hj
    exact ⟨v, h4, h5.mono h⟩
  | .opt g a, u, hr => by
    rw [RA] at hr ⊢
    exact ⟨fun hg => RA_mono h a u (hr.1 hg), hr.2⟩
theorem RA_strip {R : L → Value → Prop} : ∀ (a : A) (u : Value), RA R a u → (strip a).1 = true → RA R (strip a).2 u
  | .one _, _, h, _ => h
  | .agg _, _, h, _ => h
  | .tup _, _, h, _ => h
  | .opt g a, u, h, hs => by
    have hs' : (g && (strip a).1) = true := hs
    rw [Bool.and_eq_true] at hs'
    exact RA_strip a u (h.1 hs'.1) hs'.2
theorem RLs.drop {R : L → Value → Prop} {ls : List L} {cs : List Value} (h : RLs R ls cs) (n : Nat) : RLs R (ls.drop n) (cs.drop n) := by
  refine ⟨by rw [List.length_drop, List.length_drop, h.1], fun j l hj => ?_⟩
  rw [List.getElem?_drop] at hj ⊢
  exact h.2 _ _ hj
theorem RLs.take {R : L → Value → Prop} {ls : List L} {cs : List Value} (h : RLs R ls cs) (n : Nat) : RLs R (ls.take n) (cs.take n) := by
  refine ⟨by rw [List.length_take, List.length_take, h.1], fun j l hj => ?_⟩
  rw [List.getElem?_take] at hj ⊢
  split at hj
  · rename_i hlt; rw [if_pos hlt]; exact h.2 _ _ hj
  · cases hj
theorem RLs.append {R : L → Value → Prop} {ls ls' : List L} {cs cs' : List Value} (h : RLs R ls cs) (h' : RLs R ls' cs') : RLs R (ls ++ ls') (cs ++ cs') := by
  refine ⟨by rw [List.length_append, List.length_append, h.1, h'.1], fun j l hj => ?_⟩
  rw [List.getElem?_append] at hj ⊢
  rw [← h.1]
  split at hj
  · rename_i hlt; rw [if_pos hlt]; exact h.2 _ _ hj
  · rename_i hlt; rw [if_neg hlt]; exact h'.2 _ _ hj
theorem RLs.nil {R : L → Value → Prop} : RLs R [] [] := ⟨rfl, fun j l h => by simp at h⟩
theorem RLs.one {R : L → Value → Prop} {l : L} {u : Value} (h : R l u) : RLs R [l] [u] := by
  refine ⟨rfl, fun j x hj => ?_⟩
  cases j with
  | zero => obtain rfl : l = x := by simpa using hj
            exact ⟨u, rfl, h⟩
  | succ j => simp at hj
theorem RLs.vals {μ : List Nat} {ok : Nat → Prop} {w : World} : ∀ (xs : List Value), RLs (RL μ ok w) (xs.map fun x => .c (.v x)) xs := by
  intro xs
  refine ⟨by simp, fun j l hj => ?_⟩
  rw [List.getElem?_map] at hj
  cases hx : xs[j]? with
  | none => rw [hx] at hj; simp at hj
  | some x => rw [hx] at hj; obtain rfl : L.c (.v x) = l := by simpa using hj
              exact ⟨x, rfl, rfl⟩
theorem RA.leaves {R : L → Value → Prop} {a : A} {u : Value} (h : RA R a u) (hl : (∃ ls, a = .agg ls) ∨ (∃ l, a = .one l ∧ ∀ cs, u ≠ .agg cs)) : RLs R (leaves a) u.cells.toList := by
  rcases hl with ⟨ls, rfl⟩ | ⟨l, rfl, hn⟩
  · obtain ⟨cs, rfl, h2⟩ := h
    exact h2
  · have hc : u.cells = #[u] := by
      cases u with
      | agg cs => exact absurd rfl (hn cs)
      | _ => rfl
    rw [hc]
    exact RLs.one h
theorem ev_ok {μ : List Nat} {ok : Nat → Prop} {σ : St} {a : Act} {w : World} (h : Rl μ ok σ a w) (x : Operand) : RA (RL μ ok w) (σ.ev x) (a.eval x) := by
  cases x with
  | tmp t => exact h.tm t
  | const v =>
    show RA _ (ofV v) v
    cases v with
    | agg cs => exact ⟨cs, rfl, RLs.vals _⟩
    | _ => exact rfl
  | func f => exact ⟨[], rfl, fun j id hj => by simp at hj, rfl⟩
  | global g => trivial
/-! Third part: what only reads. -/
section
variable {P : Program} {T : Ty} {w : World}
theorem run_size {t : TypeId} {i : TI} (h : TyOK P t i) : (sizeOf t).run P w = .ok i.size w := by
  obtain ⟨j, z, h1, h2, _⟩ := h.info
  simp [sizeOf, typeInfo, h1, h2]
theorem run_zero {t : TypeId} {i : TI} (h : TyOK P t i) : ∃ z : Value, (zeroValue t).run P w = .ok z w ∧ z.cells.toList = i.zero := by
  obtain ⟨j, z, h1, h2, h3, h4, h5⟩ := h.info
  exact ⟨z, by simp [zeroValue, typeInfo, h1, h4], h5⟩
theorem run_under {t : TypeId} {d : TypeDesc} (h : P.underlying t = some d) : (underlying t).run P w = .ok d w := by simp [underlying, h]
theorem run_agg {t : TypeId} {i : TI} (h : TyOK P t i) : (isAgg t).run P w = .ok i.agg w := by
  obtain ⟨k, sz, by_, z⟩ := i
  have hk := h.kind
  cases k with
  | prim d =>
    simp only at hk
    obtain ⟨h1, h2, h3⟩ := hk
    simp only [isAgg, Sem.run_bind, run_under h1, Result.andThen_ok, TI.agg]
    cases d with
    | struct fs => exact absurd rfl (h2 fs)
    | array n e => exact absurd rfl (h3 n e)
    | _ => rfl
  | struct fs e =>
    simp only at hk
    obtain ⟨fa, h1, _⟩ := hk
    simp [isAgg, run_under h1, TI.agg]
  | slice e =>
    simp only at hk
    simp [isAgg, run_under hk, TI.agg]
  | array n e =>
    simp only at hk
    simp [isAgg, run_under hk, TI.agg]
/-- What a variable's cells come to. -/
def mkV (i : TI) (cs : List Value) : Value := if i.agg then .agg cs.toArray else cs.headD undef
theorem run_loadVar {t : TypeId} {i : TI} (h : TyOK P t i) (a : Addr) (cs : List Value) (hl : cs.length = i.size) (hp : 0 < i.size) (hc : ∀ j v, cs[j]? = some v → w.cell? (a.add j) = some v) : (loadVar t a).run P w = .ok (mkV i cs) w := by
  unfold loadVar mkV
  cases hb : i.agg with
  | true =>
    have := run_loadCells_list (P := P) w a cs hc
    rw [hl] at this
    simp [run_agg h, hb, run_size h, this]
  | false =>
    cases cs with
    | nil => simp at hl; omega
    | cons x r =>
      have := hc 0 x rfl
      rw [add_zero] at this
      simp [run_agg h, hb, this]
theorem mk_ok {R : L → Value → Prop} {t : TypeId} {i : TI} (hi : T t = some i) {ls : List L} {cs : List Value} (h : RLs R ls cs) (hp : 0 < cs.length) : RA R (mk T t ls) (mkV i cs) := by
  unfold mk mkV Ty.isAgg
  rw [hi]
  simp only
  by_cases hb : i.agg = true
  · rw [if_pos hb, if_pos hb]
    exact ⟨cs.toArray, rfl, by simpa using h⟩
  · rw [if_neg hb, if_neg hb]
    cases cs with
    | nil => simp at hp
    | cons x r =>
      cases ls with
      | nil => have := h.1; simp at this
      | cons l ls =>
        obtain ⟨v, h1, h2⟩ := h.2 0 l rfl
        obtain rfl : x = v := by simpa using h1
        exact h2
theorem run_part {ft : TypeId} {i : TI} (h : TyOK P ft i) (hp : 0 < i.size) (cs : Array Value) (off : Nat) (hl : off + i.size ≤ cs.size) : (part ft cs off).run P w = .ok (mkV i ((cs.toList.drop off).take i.size)) w := by
  unfold part mkV
  by_cases hb : i.agg = true
  · simp only [Sem.run_bind, run_agg h, Result.andThen_ok, hb, if_true, run_size h, Sem.run_pure]
    congr 2
    apply Array.ext'
    simp [List.extract_eq_take_drop]
  · have hb' : i.agg = false := by simpa using hb
    have hc : cs[off]? = some (cs[off]'(by omega)) := Array.getElem?_eq_getElem (by omega)
    simp only [Sem.run_bind, run_agg h, Result.andThen_ok, hb', Bool.false_eq_true, if_false, hc, Sem.run_pure]
    congr 1
    have : (cs.toList.drop off) = cs[off]'(by omega) :: cs.toList.drop (off + 1) := by
      rw [List.drop_eq_getElem_cons (by simp; omega)]; simp
    rw [this]
    cases hz : i.size with
    | zero => omega
    | succ n => simp
theorem known_some {t : TypeId} (h : T.known t = true) : ∃ i, T t = some i ∧ T.size t = i.size := by
  unfold Ty.known at h
  obtain ⟨i, hi⟩ := Option.isSome_iff_exists.1 h
  exact ⟨i, hi, by unfold Ty.size; rw [hi]⟩
theorem size_some {t : TypeId} (h : 0 < T.size t) : ∃ i, T t = some i ∧ T.size t = i.size := by
  unfold Ty.size at h ⊢
  cases hi : T t with
  | none => rw [hi] at h; simp at h
  | some i => exact ⟨i, rfl, rfl⟩
def SR (R : L → Value → Prop) (x : Bool × A) (u : Value) : Prop := x.1 = true → RA R x.2 u
theorem SR.of {R : L → Value → Prop} {a : A} {u : Value} (h : RA R a u) : SR R (strip a) u := fun hs => RA_strip a u h hs
variable {μ : List Nat} {ok : Nat → Prop}
/-- Another world, alike in what is told. -/
def Ag (μ : List Nat) (ok : Nat → Prop) (bx : List B) (w w' : World) : Prop := ∀ k, (ok k ∨ ∃ (i : Nat) (b : B), bx[i]? = some b ∧ b ≠ .hid ∧ μ[i]? = some k) → w'.heap[k]? = w.heap[k]?
theorem Ag.refl (μ : List Nat) (ok : Nat → Prop) (bx : List B) (w : World) : Ag μ ok bx w w := fun _ _ => rfl
theorem cell_ag {w w' : World} (a : Addr) (h : w'.heap[a.block]? = w.heap[a.block]?) (j : Nat) : w'.cell? (a.add j) = w.cell? (a.add j) := by
  unfold World.cell?
  rw [add_block, h]
theorem prim_under {t : TypeId} {d : TypeDesc} {a b : Nat} {z : List Value} (hT : ∀ t i, T t = some i → TyOK P t i) (h : T t = some ⟨.prim d, a, b, z⟩) : P.underlying t = some d := (hT _ _ h).kind.1
theorem slice_under {t e : TypeId} {a b : Nat} {z : List Value} (hT : ∀ t i, T t = some i → TyOK P t i) (h : T t = some ⟨.slice e, a, b, z⟩) : P.underlying t = some (.slice e) := (hT _ _ h).kind
theorem struct_under {t : TypeId} {fs : List (Nat × TypeId)} {e : Bool} {a b : Nat} {z : List Value} (hT : ∀ t i, T t = some i → TyOK P t i) (h : T t = some ⟨.struct fs e, a, b, z⟩) : ∃ fa : Array Field, P.underlying t = some (.struct fa) ∧ fa.toList.map (fun f => (f.offset, f.type)) = fs :=
  let ⟨fa, h1, h2, _⟩ := (hT _ _ h).kind; ⟨fa, h1, h2⟩
theorem iop_ok (op : BinOp) (t : TypeId) (k k' : IntKind) (a b : Int) (h : (iop op k a k' b).1) : (binOp op t (.int k a) (.int k' b)).run P w = .ok (iop op k a k' b).2 w := by
  have hb : ∀ x y : Int, (x == y) = decide (x = y) := fun x y => by rw [Bool.eq_iff_iff]; simp
  have hn : ∀ x y : Int, (x != y) = !decide (x = y) := fun x y => by rw [bne, hb]
  cases op <;> simp only [iop] at h ⊢ <;> first
    | exact h.elim
    | (subst h; simp [binOp, Op.intArith, Op.intCmp, Op.intBits]; done)
    | (subst h; simp only [binOp, Op.intCmp, ne_eq, not_true_eq_false, if_false, hb, hn]; rfl)
    | (obtain ⟨h1, h2⟩ := h; subst h1; simp [binOp, Op.intDiv, h2]; done)
    | (have : ¬ b < 0 := by omega
       simp [binOp, Op.shift, this]; done)
theorem bytes_eq (x y : ByteArray) : (x.toList == y.toList) = decide (x = y) := by
  rw [Bool.eq_iff_iff]
  simp only [beq_iff_eq, decide_eq_true_eq]
  refine ⟨fun h => ?_, fun h => by rw [h]⟩
  rw [ByteArray.toList_eq, ByteArray.toList_eq] at h
  exact ByteArray.ext (Array.ext' h)
theorem bytes_beq (x y : ByteArray) : (x == y) = decide (x = y) := by
  have h : (x == y) = (x.data == y.data) := rfl
  rw [h, Bool.eq_iff_iff]
  simp only [beq_iff_eq, decide_eq_true_eq]
  exact ⟨ByteArray.ext, fun h => by rw [h]⟩
theorem sop_ok (op : BinOp) (t : TypeId) (a b : ByteArray) (h : (sop op a b).1) : (binOp op t (.string a) (.string b)).run P w = .ok (sop op a b).2 w := by
  cases op <;> simp only [sop] at h ⊢ <;> first
    | exact h.elim
    | (simp [binOp, Op.stringOp, bytes_eq]; done)
    | (have hm : ¬ (((a.size + b.size : Nat) : Int) > IntKind.i64.max) := by
         have : IntKind.i64.max = 9223372036854775807 := by decide
         omega
       simp only [binOp, Op.stringOp, if_neg hm]; rfl)
theorem eqv_ok (hT : ∀ t i, T t = some i → TyOK P t i) : ∀ (d D : Nat) (t : TypeId) (x y : A) (u v : Value), d ≤ D → RA (RL μ ok w) x u → RA (RL μ ok w) y v → (eqv T d t x y).1 → ∀ w' : World, (Op.equalIn D t u v).run P w' = .ok (eqv T d t x y).2 w' := by
  intro d
  induction d with
  | zero => intro D t x y u v _ _ _ h; exact h.elim
  | succ d ih =>
    intro D t x y u v hD hx hy h w'
    obtain ⟨D, rfl⟩ : ∃ E, D = E + 1 := ⟨D - 1, by omega⟩
    unfold eqv at h ⊢
    split at h
    · rename_i hTs
      split at h
      · have e1 : u = _ := hx
        have e2 : v = _ := hy
        subst e1 e2
        simp only at h
        simp [Op.equalIn, run_under (prim_under hT hTs), h]
        rw [Bool.eq_iff_iff]; simp
      · exact h.elim
    · rename_i hTs
      split at h
      · have e1 : u = _ := hx
        have e2 : v = _ := hy
        subst e1 e2
        simp [Op.equalIn, run_under (prim_under hT hTs)]
      · exact h.elim
    · rename_i hTs
      split at h
      · have e1 : u = _ := hx
        have e2 : v = _ := hy
        subst e1 e2
        simp only [Op.equalIn, Sem.run_bind, run_under (prim_under hT hTs), Result.andThen_ok, Sem.run_pure, bytes_beq]
      · exact h.elim
    · rename_i hTs
      split at h
      · obtain ⟨g, _, e1⟩ := hx
        have e2 : v = _ := hy
        subst e1 e2
        simp [Op.equalIn, run_under (prim_under hT hTs)]
      · obtain ⟨g, _, e1⟩ := hy
        have e2 : u = _ := hx
        subst e1 e2
        simp [Op.equalIn, run_under (prim_under hT hTs)]
      · obtain ⟨g, e1, _⟩ := hx
        have e2 : v = _ := hy
        subst e1 e2
        simp [Op.equalIn, run_under (prim_under hT hTs)]
      · have e1 : u = _ := hx
        have e2 : v = _ := hy
        subst e1 e2
        simp [Op.equalIn, run_under (prim_under hT hTs)]
      · exact h.elim
    · rename_i fs _ _ _ hTs
      split at h
      · rename_i xs ys
        obtain ⟨fa, hu, hfs, he⟩ := (hT _ _ hTs).kind
        obtain ⟨he1, he2, he3⟩ := he rfl
        obtain ⟨cs, rfl, hcs⟩ := hx
        obtain ⟨ds, rfl, hds⟩ := hy
        have hf : P.fieldsOf t = fa := by simp [Program.fieldsOf, hu]
        rw [run_equalIn_struct (P := P) (w := w') D t cs ds (by rw [hf]; exact hu) he1, hf]
        subst hfs
        have he3 : ∀ f, f ∈ fa.toList → f.name ≠ "_" := fun f hf => by simpa using List.all_eq_true.1 he3 f hf
        generalize fa.toList = l at h he3 ⊢
        clear hf hu hTs
        induction l with
        | nil => simp [Op.eqFields]
        | cons f l ihl =>
          simp only [List.map_cons, List.foldr_cons] at h ⊢
          obtain ⟨h1, h2, h3, h4, h5, h6⟩ := h
          have hr := ihl h6 (fun g hg => he3 g (List.mem_cons_of_mem _ hg))
          obtain ⟨i, hi, hs⟩ := known_some h1
          have hcl : cs.toList.length = cs.size := Array.length_toList
          have hdl : ds.toList.length = ds.size := Array.length_toList
          have hc1 := hcs.1
          have hd1 := hds.1
          have ha := fun w => run_part (w := w) (hT _ _ hi) (by omega) cs f.offset (by omega)
          have hb := fun w => run_part (w := w) (hT _ _ hi) (by omega) ds f.offset (by omega)
          have hma := mk_ok (T := T) hi ((hcs.drop f.offset).take (T.size f.type)) (by rw [List.length_take, List.length_drop]; omega)
          have hmb := mk_ok (T := T) hi ((hds.drop f.offset).take (T.size f.type)) (by rw [List.length_take, List.length_drop]; omega)
          rw [hs] at hma hmb h5
          have hq := ih D f.type _ _ _ _ (by omega) hma hmb h5 w'
          rw [hs]
          rw [Op.eqFields]
          simp only [if_pos (he3 f List.mem_cons_self), Sem.run_bind, ha, hb, hq, Result.andThen_ok]
          cases hz : (eqv T d f.type (mk T f.type ((xs.drop f.offset).take i.size)) (mk T f.type ((ys.drop f.offset).take i.size))).2
          · simp
          · simpa using hr
      · exact h.elim
    · exact h.elim
theorem pEq_ok (hT : ∀ t i, T t = some i → TyOK P t i) {op : BinOp} {t : TypeId} {ox oy : Operand} {x y : Bool × A} {u v : Value} (hx : SR (RL μ ok w) x u) (hy : SR (RL μ ok w) y v) (h : (pEq T t op x y).1) :
    ∃ r, (∀ w' : World, True → (do eqGuard op t ox oy u v; binOp op t u v : Sem Value).run P w' = .ok r w') ∧ RA (RL μ ok w) (pEq T t op x y).2 r := by
  have key : ∀ f : Bool → Bool, (op = .eql ∧ f = fun b => b) ∨ (op = .neq ∧ f = fun b => !b) → x.1 = true → y.1 = true → (eqv T 10 t x.2 y.2).1 → ∀ w' : World, (do eqGuard op t ox oy u v; binOp op t u v : Sem Value).run P w' = .ok (.bool (f (eqv T 10 t x.2 y.2).2)) w' := by
    intro f hop hx1 hy1 he w'
    have hx := hx hx1
    have hy := hy hy1
    have hq : (Op.equal t u v).run P w' = _ := eqv_ok hT 10 10000 t x.2 y.2 u v (by omega) hx hy he w'
    have fin : (eqGuard op t ox oy u v).run P w' = .ok () w' → (op = .eql → (binOp .eql t u v : Sem Value) = (do pure (.bool (← Op.equal t u v)))) → (op = .neq → (binOp .neq t u v : Sem Value) = (do pure (.bool (!(← Op.equal t u v))))) → (do eqGuard op t ox oy u v; binOp op t u v : Sem Value).run P w' = .ok (.bool (f (eqv T 10 t x.2 y.2).2)) w' := by
      intro h1 h2 h3
      rcases hop with ⟨rfl, rfl⟩ | ⟨rfl, rfl⟩
      · simp only [Sem.run_bind, h1, Result.andThen_ok, h2 rfl, hq, Sem.run_pure]
      · simp only [Sem.run_bind, h1, Result.andThen_ok, h3 rfl, hq, Sem.run_pure]
    generalize hz : (eqv T 10 t x.2 y.2).2 = z at hq fin ⊢
    clear hx1 hy1
    obtain ⟨gx, x⟩ := x
    obtain ⟨gy, y⟩ := y
    simp only at hx hy he hz
    unfold eqv at he hz
    split at he
    · rename_i heq
      simp only [heq] at hz
      split at he
      · obtain rfl : u = _ := hx
        obtain rfl : v = _ := hy
        rename_i k a k' b
        simp only at he hz
        subst he
        have hg : (eqGuard op t ox oy (.int k a) (.int k b)).run P w' = .ok () w' := by cases op <;> rfl
        rcases hop with ⟨rfl, rfl⟩ | ⟨rfl, rfl⟩
        · rw [Sem.run_bind, hg, Result.andThen_ok, iop_ok .eql t _ _ _ _ rfl, ← hz]; rfl
        · rw [Sem.run_bind, hg, Result.andThen_ok, iop_ok .neq t _ _ _ _ rfl, ← hz]; rfl
      · exact he.elim
    · rename_i heq
      simp only [heq] at hz
      split at he
      · obtain rfl : u = _ := hx
        obtain rfl : v = _ := hy
        exact fin (by cases op <;> rfl) (fun _ => rfl) (fun _ => rfl)
      · exact he.elim
    · rename_i heq
      simp only [heq] at hz
      split at he
      · obtain rfl : u = _ := hx
        obtain rfl : v = _ := hy
        rename_i a b
        simp only at hz
        have hg : (eqGuard op t ox oy (.string a) (.string b)).run P w' = .ok () w' := by cases op <;> rfl
        rcases hop with ⟨rfl, rfl⟩ | ⟨rfl, rfl⟩
        · rw [Sem.run_bind, hg, Result.andThen_ok, sop_ok .eql t _ _ trivial, ← hz]; rfl
        · rw [Sem.run_bind, hg, Result.andThen_ok, sop_ok .neq t _ _ trivial, ← hz]; rfl
      · exact he.elim
    · split at he
      · obtain ⟨g, _, rfl⟩ := hx
        obtain rfl : v = _ := hy
        exact fin (by cases op <;> rfl) (fun _ => rfl) (fun _ => rfl)
      · obtain ⟨g, _, rfl⟩ := hy
        obtain rfl : u = _ := hx
        exact fin (by cases op <;> rfl) (fun _ => rfl) (fun _ => rfl)
      · obtain ⟨g, rfl, _⟩ := hx
        obtain rfl : v = _ := hy
        exact fin (by cases op <;> rfl) (fun _ => rfl) (fun _ => rfl)
      · obtain rfl : u = _ := hx
        obtain rfl : v = _ := hy
        exact fin (by cases op <;> rfl) (fun _ => rfl) (fun _ => rfl)
      · exact he.elim
    · rename_i fs _ _ _ hTs
      split at he
      · obtain ⟨cs, rfl, _⟩ := hx
        obtain ⟨ds, rfl, _⟩ := hy
        obtain ⟨fa, _, _, h3⟩ := (hT _ _ hTs).kind
        exact fin (run_eqGuard_agg (P := P) (w := w') op t ox oy cs ds (h3 rfl).2.1) (fun _ => rfl) (fun _ => rfl)
      · exact he.elim
    · exact he.elim
  unfold pEq at h ⊢
  cases op <;> simp only at h ⊢ <;> first
    | exact h.elim
    | (obtain ⟨h1, h2, h3⟩ := h
       exact ⟨_, fun w' _ => key (fun b => b) (.inl ⟨rfl, rfl⟩) h1 h2 h3 w', rfl⟩)
    | (obtain ⟨h1, h2, h3⟩ := h
       exact ⟨_, fun w' _ => key (fun b => !b) (.inr ⟨rfl, rfl⟩) h1 h2 h3 w', rfl⟩)
theorem isIfc_under (hT : ∀ t i, T t = some i → TyOK P t i) {t : TypeId} (h : isIfc T t = true) : ∃ ms, P.underlying t = some (.interface ms) := by
  unfold isIfc at h
  split at h
  · rename_i heq
    exact ⟨_, prim_under hT heq⟩
  · cases h
theorem pIfc_some {x y : A} {b : Bool} (h : pIfc x y = some b) : (b = false ∧ x = .one (.c .ifc) ∧ y = .one (.c (.v .nilIface))) ∨ (b = false ∧ x = .one (.c (.v .nilIface)) ∧ y = .one (.c .ifc)) ∨ (b = true ∧ x = .one (.c (.v .nilIface)) ∧ y = .one (.c (.v .nilIface))) := by
  unfold pIfc at h
  split at h
  · exact .inl ⟨(Option.some.inj h).symm, rfl, rfl⟩
  · exact .inr (.inl ⟨(Option.some.inj h).symm, rfl, rfl⟩)
  · exact .inr (.inr ⟨(Option.some.inj h).symm, rfl, rfl⟩)
  · cases h
theorem pEqI_ok {op : BinOp} {t : TypeId} {ms : Array (String × TypeId)} (hu : P.underlying t = some (.interface ms)) {lit : Bool} {ox oy : Operand} (hl : lit = true → isLit ox = true ∨ isLit oy = true) {x y : Bool × A} {u v : Value} (hx : SR (RL μ ok w) x u) (hy : SR (RL μ ok w) y v) (h : (pEqI lit op x y).1) :
    ∃ r, (∀ w' : World, True → (do eqGuard op t ox oy u v; binOp op t u v : Sem Value).run P w' = .ok r w') ∧ RA (RL μ ok w) (pEqI lit op x y).2 r := by
  have key : ∀ b, pIfc x.2 y.2 = some b → x.1 = true → y.1 = true → (b = true → lit = true) → ∀ w' : World, (∀ o, o = .eql ∨ o = .neq → (eqGuard o t ox oy u v).run P w' = .ok () w') ∧ (Op.equal t u v).run P w' = .ok b w' := by
    intro b hb h1 h2 h3 w'
    suffices hs : (∀ o, o = .eql ∨ o = .neq → (eqGuard o t ox oy u v).run P w' = .ok () w') ∧ ∀ D, (Op.equalIn (D + 1) t u v).run P w' = .ok b w' from ⟨hs.1, hs.2 9999⟩
    have hx := hx h1
    have hy := hy h2
    rcases pIfc_some hb with ⟨rfl, ex, ey⟩ | ⟨rfl, ex, ey⟩ | ⟨rfl, ex, ey⟩ <;> rw [ex] at hx <;> rw [ey] at hy
    · obtain ⟨t', x', rfl⟩ := hx
      obtain rfl : v = _ := hy
      refine ⟨fun o ho => by rcases ho with rfl | rfl <;> rfl, ?_⟩
      intro D
      simp [Op.equalIn, run_under hu]
    · obtain rfl : u = _ := hx
      obtain ⟨t', x', rfl⟩ := hy
      refine ⟨fun o ho => by rcases ho with rfl | rfl <;> rfl, ?_⟩
      intro D
      simp [Op.equalIn, run_under hu]
    · obtain rfl : u = _ := hx
      obtain rfl : v = _ := hy
      refine ⟨fun o ho => ?_, ?_⟩
      · have hl := hl (h3 rfl)
        rcases ho with rfl | rfl <;> rcases hl with hl | hl <;> unfold isLit at hl <;> split at hl <;> first | (simp [eqGuard]; done) | (exact absurd hl (by decide)) | cases hl
      · intro D
        simp [Op.equalIn, run_under hu]
  unfold pEqI at h ⊢
  split at h
  · rename_i b hb
    obtain ⟨h1, h2, h3⟩ := h
    exact ⟨.bool b, fun w' _ => by
      obtain ⟨h4, h5⟩ := key b hb h1 h2 h3 w'
      have e : (binOp .eql t u v : Sem Value) = (do pure (.bool (← Op.equal t u v))) := by
        rcases pIfc_some hb with ⟨_, ex, ey⟩ | ⟨_, ex, ey⟩ | ⟨_, ex, ey⟩
        · have hx := hx h1; have hy := hy h2; rw [ex] at hx; rw [ey] at hy; obtain ⟨_, _, rfl⟩ := hx; obtain rfl : v = _ := hy; rfl
        · have hx := hx h1; have hy := hy h2; rw [ex] at hx; rw [ey] at hy; obtain rfl : u = _ := hx; obtain ⟨_, _, rfl⟩ := hy; rfl
        · have hx := hx h1; have hy := hy h2; rw [ex] at hx; rw [ey] at hy; obtain rfl : u = _ := hx; obtain rfl : v = _ := hy; rfl
      simp only [Sem.run_bind, h4 .eql (.inl rfl), Result.andThen_ok, e, h5, Sem.run_pure], rfl⟩
  · rename_i b hb
    obtain ⟨h1, h2, h3⟩ := h
    exact ⟨.bool (!b), fun w' _ => by
      obtain ⟨h4, h5⟩ := key b hb h1 h2 h3 w'
      have e : (binOp .neq t u v : Sem Value) = (do pure (.bool (!(← Op.equal t u v)))) := by
        rcases pIfc_some hb with ⟨_, ex, ey⟩ | ⟨_, ex, ey⟩ | ⟨_, ex, ey⟩
        · have hx := hx h1; have hy := hy h2; rw [ex] at hx; rw [ey] at hy; obtain ⟨_, _, rfl⟩ := hx; obtain rfl : v = _ := hy; rfl
        · have hx := hx h1; have hy := hy h2; rw [ex] at hx; rw [ey] at hy; obtain rfl : u = _ := hx; obtain ⟨_, _, rfl⟩ := hy; rfl
        · have hx := hx h1; have hy := hy h2; rw [ex] at hx; rw [ey] at hy; obtain rfl : u = _ := hx; obtain rfl : v = _ := hy; rfl
      simp only [Sem.run_bind, h4 .neq (.inr rfl), Result.andThen_ok, e, h5, Sem.run_pure], rfl⟩
  · exact h.elim
theorem pBin_ok (hT : ∀ t i, T t = some i → TyOK P t i) {op : BinOp} {t : TypeId} {ox oy : Operand} {x y : Bool × A} {u v : Value} (hx : SR (RL μ ok w) x u) (hy : SR (RL μ ok w) y v) (h : (pBin T t op (isLit ox || isLit oy) x y).1) :
    ∃ r, (∀ w' : World, True → (do eqGuard op t ox oy u v; binOp op t u v : Sem Value).run P w' = .ok r w') ∧ RA (RL μ ok w) (pBin T t op (isLit ox || isLit oy) x y).2 r := by
  unfold pBin at h ⊢
  split at h
  · obtain ⟨h1, h2, h3⟩ := h
    obtain rfl : u = _ := hx h1
    obtain rfl : v = _ := hy h2
    rename_i _ k a _ k' b
    refine ⟨_, fun w' _ => ?_, rfl⟩
    have hg : ∀ w' : World, (eqGuard op t ox oy (.int k a) (.int k' b)).run P w' = .ok () w' := fun w' => by cases op <;> rfl
    simp only [Sem.run_bind, hg, Result.andThen_ok, iop_ok op t _ _ _ _ h3]
  · obtain ⟨h1, h2, h3⟩ := h
    obtain rfl : u = _ := hx h1
    obtain rfl : v = _ := hy h2
    rename_i _ a _ b
    refine ⟨_, fun w' _ => ?_, rfl⟩
    have hg : ∀ w' : World, (eqGuard op t ox oy (.string a) (.string b)).run P w' = .ok () w' := fun w' => by cases op <;> rfl
    simp only [Sem.run_bind, hg, Result.andThen_ok, sop_ok op t _ _ h3]
  · by_cases hi : isIfc T t = true
    · obtain ⟨ms, hu⟩ := isIfc_under hT hi
      simp only [hi, if_true] at h ⊢
      exact pEqI_ok hu (fun e => by simpa using e) hx hy h
    · simp only [hi] at h ⊢
      exact pEq_ok hT hx hy h
theorem pickV_ok {R : L → Value → Prop} (hR : ∀ x u, R (.c (.v x)) u ↔ u = x) (t : Bool) (X Y : A) (u v : Value) (hx : t = true → RA R X u) (hy : t = false → RA R Y v) : RA R (pickV t X Y) (if t = true then u else v) := by
  unfold pickV
  split
  · rename_i a b
    cases t with
    | true => have := (hR _ _).1 (hx rfl); subst this; exact (hR _ _).2 rfl
    | false => have := (hR _ _).1 (hy rfl); subst this; exact (hR _ _).2 rfl
  · rename_i k a k' b
    split
    · rename_i hk
      subst hk
      cases t with
      | true => have := (hR _ _).1 (hx rfl); subst this; exact (hR _ _).2 rfl
      | false => have := (hR _ _).1 (hy rfl); subst this; exact (hR _ _).2 rfl
    · cases t with
      | true => exact hx rfl
      | false => exact hy rfl
  · cases t with
    | true => exact hx rfl
    | false => exact hy rfl
theorem pPick_ok {c x y : Bool × A} {s u v : Value} (hc : SR (RL μ ok w) c s) (hx : SR (RL μ ok w) x u) (hy : SR (RL μ ok w) y v) (h : (pPick c x y).1) :
    ∃ r, (∀ w' : World, True → (do pure (if ← asBool s then u else v) : Sem Value).run P w' = .ok r w') ∧ RA (RL μ ok w) (pPick c x y).2 r := by
  unfold pPick at h ⊢
  split at h
  · rename_i g t
    obtain ⟨h1, h2, h3⟩ := h
    have e1 : s = .bool t := hc h1
    subst e1
    refine ⟨if t = true then u else v, fun w' _ => by simp [asBool], ?_⟩
    exact pickV_ok (fun _ _ => Iff.rfl) t x.2 y.2 u v (fun ht => hx (h2 ht)) (fun ht => hy (h3 ht))
  · exact h.elim
theorem pNot_ok {x : Bool × A} {u : Value} (hx : SR (RL μ ok w) x u) (h : (pNot x).1) : ∃ r, (∀ w' : World, True → (Op.unary .not u).run P w' = .ok r w') ∧ RA (RL μ ok w) (pNot x).2 r := by
  unfold pNot at h ⊢
  split at h
  · have e1 : u = _ := hx h
    subst e1
    exact ⟨_, fun w' _ => by simp [Op.unary], rfl⟩
  · exact h.elim
theorem pNeg_ok {x : Bool × A} {u : Value} (hx : SR (RL μ ok w) x u) (h : (pNeg x).1) : ∃ r, (∀ w' : World, True → (Op.unary .neg u).run P w' = .ok r w') ∧ RA (RL μ ok w) (pNeg x).2 r := by
  unfold pNeg at h ⊢
  split at h
  · have e1 : u = _ := hx h
    subst e1
    exact ⟨_, fun w' _ => by simp [Op.unary, Op.intArith], rfl⟩
  · exact h.elim
theorem pConv_ok (hT : ∀ t i, T t = some i → TyOK P t i) {s d : TypeId} {x : Bool × A} {u : Value} (hx : SR (RL μ ok w) x u) (h : (pConv T s d x).1) : ∃ r, (∀ w' : World, True → (convert s d u).run P w' = .ok r w') ∧ RA (RL μ ok w) (pConv T s d x).2 r := by
  unfold pConv at h ⊢
  split at h
  · rename_i n h1 h2
    have e1 : u = _ := hx h
    subst e1
    exact ⟨_, fun w' _ => by simp [convert, run_under (prim_under hT h1), run_under (prim_under hT h2), Conv.intToInt], rfl⟩
  · exact h.elim
theorem fields_at {fa : Array Field} {fs : List (Nat × TypeId)} {k o : Nat} {ft : TypeId} (h : fa.toList.map (fun f => (f.offset, f.type)) = fs) (hk : fs[k]? = some (o, ft)) : ∃ f, fa[k]? = some f ∧ f.offset = o ∧ f.type = ft := by
  subst h
  rw [List.getElem?_map] at hk
  cases hf : fa.toList[k]? with
  | none => rw [hf] at hk; simp at hk
  | some f =>
    rw [hf] at hk
    simp only [Option.map_some, Option.some.injEq, Prod.mk.injEq] at hk
    exact ⟨f, by simpa using hf, hk.1, hk.2⟩
theorem fcells_ok {R : L → Value → Prop} {f : Nat → C} {g : Nat → Value} : ∀ (n o : Nat), (∀ j, j < n → R (.c (f (o + j))) (g (o + j))) → RLs R (fcells f o n) ((List.range' o n).map g)
  | 0, o, _ => RLs.nil
  | n + 1, o, h => by
    rw [fcells, List.range'_succ, List.map_cons]
    exact RLs.append (RLs.one (h 0 (by omega))) (fcells_ok n (o + 1) (fun j hj => by have := h (j + 1) (by omega); rwa [show o + (j + 1) = o + 1 + j by omega] at this))
theorem pLoad_ok (hT : ∀ t i, T t = some i → TyOK P t i) {bx : List B} {t : TypeId} {x : Bool × A} {u : Value} (hm : Mem μ ok bx w) (hx : SR (RL μ ok w) x u) (h : (pLoad T bx t x).1) : ∃ r, (∀ w', Ag μ ok bx w w' → (Instr.loadAt t u).run P w' = .ok r w') ∧ RA (RL μ ok w) (pLoad T bx t x).2 r := by
  unfold pLoad at h ⊢
  split at h
  · rename_i g id off
    split at h
    · rename_i ls t' hb
      obtain ⟨h1, h2, h3, h4⟩ := h
      obtain ⟨i, hi, hs⟩ := known_some h2
      obtain ⟨b, hg, hu⟩ := hx h1
      subst hu
      obtain ⟨cs, hc, hr⟩ := hm.box id _ b hb hg
      simp only [hb]
      have hl : ((cs.toList.drop off).take (T.size t)).length = i.size := by
        rw [List.length_take, List.length_drop, ← hr.1]; omega
      refine ⟨mkV i ((cs.toList.drop off).take (T.size t)), fun w' hw' => ?_, mk_ok hi ((hr.drop off).take _) (by rw [hl]; omega)⟩
      simp only [Instr.loadAt, Instr.sureAddr, Sem.run_bind, Sem.run_pure, Result.andThen_ok]
      refine run_loadVar (hT _ _ hi) _ _ hl (by omega) (fun j v hj => ?_)
      rw [List.getElem?_take] at hj
      split at hj
      · rw [List.getElem?_drop] at hj
        rw [add_lit]
        simp only [World.cell?, hw' b (.inr ⟨id, _, hb, by simp, hg⟩), hc]
        simpa using hj
      · cases hj
    · exact h.elim
  · rename_i g id sz k off
    split at h
    · rename_i es sz' t' hb
      obtain ⟨h1, h2, h3, h4, h5, h6⟩ := h
      subst h3
      obtain ⟨i, hi, hs⟩ := known_some h2
      obtain ⟨b, hg, hu⟩ := hx h1
      subst hu
      obtain ⟨cs, cap, hc, hsz, hcap, _, hel⟩ := hm.box id _ b hb hg
      simp only [hb]
      have he : es[k]? = some (es.getD k []) := by rw [List.getD_eq_getElem?_getD, List.getElem?_eq_getElem h4]; rfl
      obtain ⟨hlen, hall⟩ := hel k _ he
      generalize es.getD k [] = e at hlen hall
      have hvs : RLs (RL μ ok w) e ((List.range' 0 sz).map fun j => cs.getD (k * sz + j) undef) := by
        refine ⟨by simp [hlen], fun j l hj => ?_⟩
        obtain ⟨v, hv, hr⟩ := hall j l hj
        have hjl : j < sz := by rw [← hlen]; exact (List.getElem?_eq_some_iff.1 hj).1
        refine ⟨v, ?_, hr⟩
        simp [List.getElem?_map, List.getElem?_range', hjl, hv]
      have hl : ((((List.range' 0 sz).map fun j => cs.getD (k * sz + j) undef).drop off).take (T.size t)).length = i.size := by
        rw [List.length_take, List.length_drop, List.length_map, List.length_range']; omega
      have hmk := mk_ok (R := RL μ ok w) hi ((hvs.drop off).take (T.size t)) (by rw [hl]; omega)
      refine ⟨_, fun w' hw' => ?_, hmk⟩
      simp only [Instr.loadAt, Instr.sureAddr, Sem.run_bind, Sem.run_pure, Result.andThen_ok]
      refine run_loadVar (hT _ _ hi) _ _ hl (by omega) (fun j v hj => ?_)
      rw [List.getElem?_take] at hj
      split at hj
      · rename_i hjl
        rw [List.getElem?_drop, List.getElem?_map, List.getElem?_range' (by omega)] at hj
        simp only [Nat.zero_add, Nat.one_mul, Option.map_some, Option.some.injEq] at hj
        have hq : e[off + j]? = some (e[off + j]'(by omega)) := List.getElem?_eq_getElem (by omega)
        obtain ⟨v', hv', _⟩ := hall _ _ hq
        rw [add_lit]
        simp only [World.cell?, hw' b (.inr ⟨id, _, hb, by simp, hg⟩), hc]
        rw [Array.getD_eq_getD_getElem?, hv'] at hj
        rw [show k * sz + off + j = k * sz + (off + j) by omega, hv']
        simpa using hj
      · cases hj
    · exact h.elim
  · rename_i g n f
    obtain ⟨h1, h2, h3, h4⟩ := h
    obtain ⟨i, hi, hs⟩ := known_some h2
    obtain ⟨b, hu, hb, hall⟩ := hx h1
    subst hu
    have hex : ∀ j, j < T.size t → RL μ ok w (.c (f (0 + j))) ((w.cell? (b.add (0 + j))).getD undef) := by
      intro j hj
      obtain ⟨v, hv, hr⟩ := hall j (by omega)
      rw [Nat.zero_add, hv]
      exact hr
    have hr := fcells_ok (R := RL μ ok w) (f := f) (g := fun j => (w.cell? (b.add j)).getD undef) (T.size t) 0 hex
    have hl : ((List.range' 0 (T.size t)).map fun j => (w.cell? (b.add j)).getD undef).length = i.size := by simp [hs]
    refine ⟨_, fun w' hw' => ?_, mk_ok hi hr (by rw [hl]; omega)⟩
    simp only [Instr.loadAt, Instr.sureAddr, Sem.run_bind, Sem.run_pure, Result.andThen_ok]
    refine run_loadVar (hT _ _ hi) _ _ hl (by omega) (fun j v hj => ?_)
    rw [List.getElem?_map] at hj
    by_cases hjl : j < T.size t
    · rw [List.getElem?_range' hjl] at hj
      obtain ⟨v', hv', _⟩ := hall j (by omega)
      simp [hv'] at hj
      rw [cell_ag b (hw' _ (.inl hb)), hv', hj]
    · rw [List.getElem?_eq_none (by simp; omega)] at hj
      simp at hj
  · exact h.elim
end
section
variable {P : Program} {T : Ty} {w : World} {μ : List Nat} {ok : Nat → Prop}
theorem run_fieldPlace {ft : TypeId} {i : TI} (h : TyOK P ft i) (hp : 0 < i.size) (a : Addr) (f : Field) (hf : f.type = ft) : (fieldPlace a f).run P w = .ok (a.add f.offset) w := by
  subst hf
  have : ¬ i.size = 0 := by omega
  simp [fieldPlace, run_size h, this]
theorem pFieldAddr_ok (hT : ∀ t i, T t = some i → TyOK P t i) {s : TypeId} {x : Bool × A} {k : Nat} {u : Value} (hx : SR (RL μ ok w) x u) (h : (pFieldAddr T s x k).1) : ∃ r, (∀ w' : World, True → (Instr.fieldAt s u k).run P w' = .ok r w') ∧ RA (RL μ ok w) (pFieldAddr T s x k).2 r := by
  unfold pFieldAddr at h ⊢
  split at h
  · rename_i fs _ sz by_ z hTs
    obtain ⟨fa, hu, hfs⟩ := struct_under hT hTs
    split at h
    · rename_i o ft hk
      obtain ⟨f, hf1, hf2, hf3⟩ := fields_at hfs hk
      have go : ∀ a : Addr, u = .pointer (some a) → 0 < T.size ft → ∀ w' : World, True → (Instr.fieldAt s u k).run P w' = .ok (.pointer (some (a.add o))) w' := by
        intro a hua hp w' _
        obtain ⟨i, hi, hs⟩ := size_some hp
        subst hua
        simp only [Instr.fieldAt, Sem.run_bind, run_under hu, Result.andThen_ok, hf1, Instr.sureAddr, Sem.run_pure, run_fieldPlace (hT _ _ hi) (by omega) a f hf3, hf2]
      split at h
      · obtain ⟨h1, h2⟩ := h
        obtain ⟨b, hg, hub⟩ := hx h1
        refine ⟨_, go _ hub h2, b, hg, ?_⟩
        rw [add_lit]
      · obtain ⟨h1, h2⟩ := h
        obtain ⟨b, hg, hub⟩ := hx h1
        refine ⟨_, go _ hub h2, b, hg, ?_⟩
        rw [add_lit, Nat.add_assoc]
      · obtain ⟨h1, h2⟩ := h
        obtain ⟨b, hub, hb, hall⟩ := hx h1
        refine ⟨_, go _ hub h2, b.add o, rfl, by rw [add_block]; exact hb, fun j hj => ?_⟩
        obtain ⟨v, hv, hr⟩ := hall (o + j) (by omega)
        exact ⟨v, by rw [add_add]; exact hv, hr⟩
      · exact h.elim
    · exact h.elim
  · exact h.elim
theorem pField_ok (hT : ∀ t i, T t = some i → TyOK P t i) {s : TypeId} {x : Bool × A} {k : Nat} {u : Value} (hx : SR (RL μ ok w) x u) (h : (pField T s x k).1) : ∃ r, (∀ w' : World, True → (Instr.field s u k).run P w' = .ok r w') ∧ RA (RL μ ok w) (pField T s x k).2 r := by
  unfold pField at h ⊢
  split at h
  · rename_i fs _ sz by_ z hTs
    obtain ⟨fa, hu, hfs⟩ := struct_under hT hTs
    split at h
    · rename_i o ft hk
      obtain ⟨f, hf1, hf2, hf3⟩ := fields_at hfs hk
      split at h
      · rename_i g ls
        obtain ⟨h1, h2, h3, h4⟩ := h
        obtain ⟨i, hi, hs⟩ := known_some h2
        obtain ⟨cs, hua, hr⟩ := hx h1
        subst hua
        subst hf2 hf3
        have hl : f.offset + i.size ≤ cs.size := by
          have h8 := hr.1
          have h9 : cs.toList.length = cs.size := Array.length_toList
          omega
        refine ⟨mkV i ((cs.toList.drop f.offset).take i.size), fun w' _ => ?_, ?_⟩
        · simp only [Instr.field, Sem.run_bind, run_under hu, Result.andThen_ok, hf1, asAgg, Sem.run_pure, run_part (hT _ _ hi) (by omega) cs f.offset hl]
        · rw [← hs]
          refine mk_ok hi ((hr.drop _).take _) ?_
          rw [List.length_take, List.length_drop, Array.length_toList]; omega
      · exact h.elim
    · exact h.elim
  · exact h.elim
theorem pIndexAddr_ok (hT : ∀ t i, T t = some i → TyOK P t i) {t : TypeId} {x y : Bool × A} {u v : Value} (hx : SR (RL μ ok w) x u) (hy : SR (RL μ ok w) y v) (h : (pIndexAddr T t x y).1) : ∃ r, (∀ w' : World, True → (Instr.indexAt t u v).run P w' = .ok r w') ∧ RA (RL μ ok w) (pIndexAddr T t x y).2 r := by
  unfold pIndexAddr at h ⊢
  split at h
  · rename_i e sz0 by_ z hTs
    have hu := slice_under hT hTs
    have go : ∀ (a : Addr) (n cap : Nat) (kk : IntKind) (k : Int) (i : TI), T e = some i → u = .slice (some a) n cap → v = .int kk k → 0 ≤ k → k < n → ∀ w' : World, True → (Instr.indexAt t u v).run P w' = .ok (.pointer (some (a.add (k.toNat * i.size)))) w' := by
      intro a n cap kk k i hi h1 h2 h3 h4 w' _
      subst h1 h2
      simp only [Instr.indexAt, asIntOf, Sem.run_bind, Sem.run_pure, run_under hu, Result.andThen_ok]
      simp [h3, h4, run_size (hT _ _ hi)]
    split at h
    · rename_i g n sz f g' kk k
      obtain ⟨h1, h2, h3, h4, h5, h6, h7⟩ := h
      obtain ⟨i, hi, hs⟩ := known_some h3
      obtain ⟨a, cap, hua, hn, hc⟩ := hx h1
      have hv : v = _ := hy h2
      obtain ⟨b, v0, hb, ho, _, _⟩ := hc k.toNat (by omega) 0 h5
      subst hb
      refine ⟨_, go b n cap kk k i hi hua hv h6 h7, b.add (k.toNat * i.size), rfl, by rw [add_block]; exact ho, fun j hj => ?_⟩
      obtain ⟨b', v', hb', _, hc', hr⟩ := hc k.toNat (by omega) j hj
      obtain rfl : b = b' := by injection hb'
      exact ⟨v', by rw [add_add, ← hs, h4]; exact hc', hr⟩
    · rename_i g id sz o n g' kk k
      obtain ⟨h1, h2, h3, h4, h6, h7⟩ := h
      obtain ⟨i, hi, hs⟩ := known_some h3
      obtain ⟨b, cap, cs, t', hg, hua, hn, _, _⟩ := hx h1
      have hv : v = _ := hy h2
      refine ⟨_, go _ n cap kk k i hi hua hv h6 h7, b, hg, ?_⟩
      rw [add_lit, ← hs, h4, Nat.add_mul, Nat.add_zero]
    · exact h.elim
  · exact h.elim
theorem pIndex_ok (hT : ∀ t i, T t = some i → TyOK P t i) {t : TypeId} {x y : Bool × A} {u v : Value} (hx : SR (RL μ ok w) x u) (hy : SR (RL μ ok w) y v) (h : (pIndex T t x y).1) : ∃ r, (∀ w' : World, True → (Instr.index t u v).run P w' = .ok r w') ∧ RA (RL μ ok w) (pIndex T t x y).2 r := by
  unfold pIndex at h ⊢
  split at h
  · rename_i sz0 by_ z hTs
    have hu := prim_under hT hTs
    split at h
    · rename_i g s g' kk k
      obtain ⟨h1, h2, h3, h4⟩ := h
      have e1 : u = _ := hx h1
      have e2 : v = _ := hy h2
      subst e1 e2
      refine ⟨_, fun w' _ => ?_, rfl⟩
      have hlt : k.toNat < s.size := by omega
      have hs : s[k.toNat]? = some (s.data.getD k.toNat 0) := by
        rw [getElem?_pos s k.toNat hlt]
        congr 1
        have hd : k.toNat < s.data.size := hlt
        rw [Array.getD_eq_getD_getElem?, Array.getElem?_eq_getElem hd]
        rfl
      simp only [Instr.index, asIntOf, Sem.run_bind, Sem.run_pure, run_under hu, Result.andThen_ok, if_pos h3, hs]
    · exact h.elim
  · exact h.elim
theorem pExtract_ok {x : Bool × A} {i : Nat} {u : Value} (hx : SR (RL μ ok w) x u) (h : (pExtract x i).1) : ∃ r, (∀ w' : World, True → (Instr.extract u i).run P w' = .ok r w') ∧ RA (RL μ ok w) (pExtract x i).2 r := by
  unfold pExtract at h ⊢
  split at h
  · rename_i g xs
    have key : ∀ p, xs[i]? = some p → g = true → ∃ v, (∀ w' : World, True → (Instr.extract u i).run P w' = .ok v w') ∧ RV (RL μ ok w) p v := by
      intro p hp hg
      obtain ⟨vs, hu, _, hall⟩ := hx hg
      obtain ⟨v, hv, hr⟩ := hall i p hp
      exact ⟨v, fun w' _ => by subst hu; simp [Instr.extract, hv], hr⟩
    split at h
    · rename_i ls hp
      obtain ⟨v, h1, h2⟩ := key _ hp h
      simp only [hp]
      exact ⟨v, h1, h2.1 rfl⟩
    · rename_i l hp
      obtain ⟨v, h1, h2⟩ := key _ hp h
      simp only [hp]
      refine ⟨v, h1, ?_⟩
      obtain ⟨l', h3, h4⟩ := h2.2 rfl
      obtain rfl : l = l' := by simpa using h3
      exact h4
    · exact h.elim
  · exact h.elim
theorem pLen_ok (hT : ∀ t i, T t = some i → TyOK P t i) {t ty : TypeId} {x : Bool × A} {u : Value} (hx : SR (RL μ ok w) x u) (h : (pLen T t x).1) : ∃ r, (∀ w' : World, True → (Builtin.len_ #[t] ty #[u]).run P w' = .ok r w') ∧ RA (RL μ ok w) (pLen T t x).2 r := by
  unfold pLen at h ⊢
  split at h
  · rename_i hTs
    have e1 : u = _ := hx h
    subst e1
    exact ⟨_, fun w' _ => by simp [Builtin.len_, run_under (prim_under hT hTs)]; rfl, rfl⟩
  · rename_i hTs
    obtain ⟨a, cap, hua, hn, hc⟩ := hx h
    subst hua
    exact ⟨_, fun w' _ => by simp [Builtin.len_, run_under (slice_under hT hTs)]; rfl, rfl⟩
  · rename_i hTs
    have e1 : u = _ := hx h
    subst e1
    exact ⟨_, fun w' _ => by simp [Builtin.len_, run_under (slice_under hT hTs)]; rfl, rfl⟩
  · rename_i hTs
    obtain ⟨b, cap, cs, t', hg, hua, hn, _, _⟩ := hx h
    subst hua
    exact ⟨_, fun w' _ => by simp [Builtin.len_, run_under (slice_under hT hTs)]; rfl, rfl⟩
  · exact h.elim
theorem bound_ok {x : Option (Bool × A)} {u : Option Value} (hx : ∀ y, x = some y → ∃ v, u = some v ∧ SR (RL μ ok w) y v) (hn : x = none → u = none) {d : Int} (h : (bound x d).1) :
    (x = none ∧ u = none ∧ (bound x d).2 = d) ∨ ∃ kk k, u = some (.int kk k) ∧ (bound x d).2 = k := by
  unfold bound at h ⊢
  split at h
  · exact .inl ⟨rfl, hn rfl, rfl⟩
  · rename_i g kk k
    obtain ⟨v, hv, hr⟩ := hx _ rfl
    have e1 : v = _ := hr h
    subst e1
    exact .inr ⟨kk, k, hv, rfl⟩
  · exact h.elim
theorem run_bounds {b : Bool} {len cap : Nat} {lo hi : Option Value} {l h : Int} (hlo : (lo = none ∧ l = 0) ∨ ∃ kk, lo = some (.int kk l)) (hhi : (hi = none ∧ h = len) ∨ ∃ kk, hi = some (.int kk h)) (h0 : 0 ≤ l) (h1 : l ≤ h) (h2 : h ≤ len) (h3 : len ≤ cap) :
    (Instr.sliceBounds b len cap lo hi none).run P w = .ok (l.toNat, h.toNat, cap) w := by
  have hc : h ≤ cap := by omega
  have hh : ∀ (k : IntKind) (y : Nat) (c : BoundsCode), h ≤ y → (Instr.sliceBound (.int k h) y c).run P w = .ok h.toNat w := by
    intro k y c hy
    have : 0 ≤ h ∧ h ≤ y := ⟨by omega, hy⟩
    simp [Instr.sliceBound, asIntOf, this]
  have hl : ∀ (k : IntKind) (y : Nat) (c : BoundsCode), l ≤ y → (Instr.sliceBound (.int k l) y c).run P w = .ok l.toNat w := by
    intro k y c hy
    have : 0 ≤ l ∧ l ≤ y := ⟨by omega, hy⟩
    simp [Instr.sliceBound, asIntOf, this]
  rcases hlo with ⟨rfl, rfl⟩ | ⟨kk, rfl⟩ <;> rcases hhi with ⟨rfl, rfl⟩ | ⟨k2, rfl⟩
  · simp [Instr.sliceBounds]
  · simp [Instr.sliceBounds, hh k2 cap _ hc]
  · simp [Instr.sliceBounds, hl kk len _ h1]
  · simp [Instr.sliceBounds, hh k2 cap _ hc, hl kk h.toNat _ (by omega)]
theorem pSlice_ok (hT : ∀ t i, T t = some i → TyOK P t i) {t : TypeId} {x : Bool × A} {lo hi : Option (Bool × A)} {u : Value} {ul uh : Option Value} (hx : SR (RL μ ok w) x u)
    (hlo : ∀ y, lo = some y → ∃ v, ul = some v ∧ SR (RL μ ok w) y v) (hln : lo = none → ul = none) (hhi : ∀ y, hi = some y → ∃ v, uh = some v ∧ SR (RL μ ok w) y v) (hhn : hi = none → uh = none)
    (h : (pSlice T t x lo hi).1) : ∃ r, (∀ w' : World, True → (Instr.sliceAt t u ul uh none).run P w' = .ok r w') ∧ RA (RL μ ok w) (pSlice T t x lo hi).2 r := by
  unfold pSlice at h ⊢
  split at h
  · rename_i g s hTs
    obtain ⟨h1, h2, h3, h4, h5, h6⟩ := h
    have e1 : u = _ := hx h1
    subst e1
    have bl := bound_ok hlo hln h2
    have bh := bound_ok hhi hhn h3
    have hb := fun w' : World => run_bounds (P := P) (w := w') (b := false) (len := s.size) (cap := s.size) (lo := ul) (hi := uh) (l := (bound lo 0).2) (h := (bound hi s.size).2)
      (by rcases bl with ⟨_, e, e'⟩ | ⟨kk, k, e, e'⟩; exact .inl ⟨e, e'⟩; exact .inr ⟨kk, by rw [e']; exact e⟩)
      (by rcases bh with ⟨_, e, e'⟩ | ⟨kk, k, e, e'⟩; exact .inl ⟨e, e'⟩; exact .inr ⟨kk, by rw [e']; exact e⟩) h4 h5 h6 (Nat.le_refl _)
    refine ⟨_, fun w' _ => ?_, rfl⟩
    simp [Instr.sliceAt, Instr.slice, run_under (prim_under hT hTs), hb]
  · rename_i e _ _ _ g n sz f hTs
    obtain ⟨h1, h7, h8, h2, h3, h4, h5, h6⟩ := h
    obtain ⟨i, hi', hs⟩ := known_some h7
    obtain ⟨a, cap, hua, hn, hc⟩ := hx h1
    subst hua
    have bl := bound_ok hlo hln h2
    have bh := bound_ok hhi hhn h3
    have hb := fun w' : World => run_bounds (P := P) (w := w') (b := true) (len := n) (cap := cap) (lo := ul) (hi := uh) (l := (bound lo 0).2) (h := (bound hi n).2)
      (by rcases bl with ⟨_, e, e'⟩ | ⟨kk, k, e, e'⟩; exact .inl ⟨e, e'⟩; exact .inr ⟨kk, by rw [e']; exact e⟩)
      (by rcases bh with ⟨_, e, e'⟩ | ⟨kk, k, e, e'⟩; exact .inl ⟨e, e'⟩; exact .inr ⟨kk, by rw [e']; exact e⟩) h4 h5 h6 hn.1
    generalize (bound lo 0).2 = l at *
    generalize (bound hi (n : Int)).2 = hh at *
    refine ⟨.slice (if cap = l.toNat then a else a.map (·.add (l.toNat * i.size))) (hh.toNat - l.toNat) (cap - l.toNat), fun w' _ => ?_, _, _, rfl, by omega, fun k hk j hj => ?_⟩
    · simp [Instr.sliceAt, Instr.slice, run_under (slice_under hT hTs), hb, run_size (hT _ _ hi')]
    · have hcap : cap ≠ l.toNat := by omega
      obtain ⟨b, v, hb', ho, hv, hr⟩ := hc (l.toNat + k) (by omega) j hj
      subst hb'
      refine ⟨b.add (l.toNat * i.size), v, by rw [if_neg hcap]; rfl, by rw [add_block]; exact ho, ?_, hr⟩
      rw [add_add, ← hs, h8, show l.toNat * sz + (k * sz + j) = (l.toNat + k) * sz + j by rw [Nat.add_mul]; omega]
      exact hv
  · rename_i e _ _ _ g id sz o n hTs
    obtain ⟨h1, h7, h8, h2, h3, h4, h5, h6, h9⟩ := h
    obtain ⟨i, hi', hs⟩ := known_some h7
    obtain ⟨b, cap, cs, t', hg, hua, hn, hcs, hsz⟩ := hx h1
    subst hua
    have bl := bound_ok hlo hln h2
    have bh := bound_ok hhi hhn h3
    have hb := fun w' : World => run_bounds (P := P) (w := w') (b := true) (len := n) (cap := cap) (lo := ul) (hi := uh) (l := (bound lo 0).2) (h := (bound hi n).2)
      (by rcases bl with ⟨_, e, e'⟩ | ⟨kk, k, e, e'⟩; exact .inl ⟨e, e'⟩; exact .inr ⟨kk, by rw [e']; exact e⟩)
      (by rcases bh with ⟨_, e, e'⟩ | ⟨kk, k, e, e'⟩; exact .inl ⟨e, e'⟩; exact .inr ⟨kk, by rw [e']; exact e⟩) h4 h5 h6 hn
    generalize (bound lo 0).2 = l at *
    generalize (bound hi (n : Int)).2 = hh at *
    refine ⟨.slice (if cap = l.toNat then some ⟨b, o * sz, none⟩ else some ((⟨b, o * sz, none⟩ : Addr).add (l.toNat * i.size))) (hh.toNat - l.toNat) (cap - l.toNat), fun w' _ => ?_, b, cap - l.toNat, cs, t', hg, ?_, by clear bl bh hb; omega, hcs, by clear bl bh hb; rw [hsz]; congr 1; omega⟩
    · simp [Instr.sliceAt, Instr.slice, run_under (slice_under hT hTs), hb, run_size (hT _ _ hi')]
    · rw [add_lit, ← hs, h8, ← Nat.add_mul]
      split
      · rename_i hc
        have : l.toNat = 0 := by clear bl bh hb; omega
        rw [this, Nat.add_zero]
      · rfl
  · exact h.elim
theorem pMin_ok {mx : Bool} {ts : Array TypeId} {t : TypeId} {x y : Bool × A} {u v : Value} (hx : SR (RL μ ok w) x u) (hy : SR (RL μ ok w) y v) (h : (pMin mx x y).1) :
    ∃ r, (∀ w' : World, True → (if mx then Builtin.max_ ts t #[u, v] else Builtin.min_ ts t #[u, v] : Sem Value).run P w' = .ok r w') ∧ RA (RL μ ok w) (pMin mx x y).2 r := by
  unfold pMin at h ⊢
  split at h
  · obtain ⟨h1, h2⟩ := h
    obtain rfl : u = _ := hx h1
    obtain rfl : v = _ := hy h2
    refine ⟨_, fun w' _ => ?_, rfl⟩
    cases mx <;> simp [Builtin.max_, Builtin.min_, Builtin.max2, Builtin.min2, List.foldlM]
  · exact h.elim
end
section
variable {P : Program} {T : Ty} {w : World} {μ : List Nat} {ok : Nat → Prop}
theorem lcell_one {l : L} {u : Value} (h : RL μ ok w l u) (hl : lcell l = true) : u.oneCell' = true := by
  cases l with
  | c x =>
    cases x with
    | v x => have e : u = x := h; subst e; exact hl
    | sl n sz f => obtain ⟨a, cap, hu, _⟩ := h; subst hu; rfl
    | any => simp [lcell] at hl
    | ifc => obtain ⟨t, x, hu⟩ := h; subst hu; rfl
  | ptr id off => obtain ⟨g, _, hu⟩ := h; subst hu; rfl
  | ep id sz i off => obtain ⟨g, _, hu⟩ := h; subst hu; rfl
  | rp n f => obtain ⟨b, hu, _⟩ := h; subst hu; rfl
  | own id sz o n => obtain ⟨g, cap, cs, t, _, hu, _⟩ := h; subst hu; rfl
  | fn f caps => obtain ⟨gs, _, _, hu⟩ := h; subst hu; rfl
  | junk => simp [lcell] at hl
theorem leaves_ok {a : A} {u : Value} (h : RA (RL μ ok w) a u) (hw : whole a = true) : RLs (RL μ ok w) (leaves a) u.cells.toList := by
  refine RA.leaves h ?_
  cases a with
  | agg ls => exact .inl ⟨ls, rfl⟩
  | one l =>
    refine .inr ⟨l, rfl, fun cs hu => ?_⟩
    have := lcell_one h hw
    rw [hu] at this
    simp [Value.oneCell'] at this
  | tup xs => simp [whole] at hw
  | opt g a => simp [whole] at hw
theorem foldl_set (vs : List Value) : ∀ (cs : Array Value) (off k : Nat), off + k + vs.length ≤ cs.size →
    ((vs.zipIdx k).foldl (fun cs (x : Value × Nat) => cs.setIfInBounds (off + x.2) x.1) cs).toList = cs.toList.take (off + k) ++ vs ++ cs.toList.drop (off + k + vs.length) := by
  induction vs with
  | nil => intro cs off k h; simp
  | cons v vs ih =>
    intro cs off k h
    simp only [List.length_cons] at h
    rw [List.zipIdx_cons, List.foldl_cons, ih _ off (k + 1) (by simp only [Array.size_setIfInBounds]; omega)]
    rw [Array.toList_setIfInBounds]
    have hl : off + k < cs.toList.length := by rw [Array.length_toList]; omega
    rw [List.set_eq_take_append_cons_drop, if_pos hl]
    have e1 : (cs.toList.take (off + k)).length = off + k := by rw [List.length_take]; omega
    rw [List.take_append, List.drop_append, e1]
    have e2 : off + (k + 1) - (off + k) = 1 := by omega
    have e3 : off + (k + 1) + vs.length - (off + k) = vs.length + 1 := by omega
    rw [e2, e3, List.take_of_length_le (by rw [e1]; omega), List.drop_of_length_le (show (cs.toList.take (off + k)).length ≤ off + (k + 1) + vs.length by rw [e1]; omega)]
    simp only [List.take_succ_cons, List.take_zero, List.drop_succ_cons, List.drop_drop, List.nil_append, List.length_cons]
    rw [show off + k + 1 + vs.length = off + k + (vs.length + 1) by omega]
    simp
theorem fill_ok {place : Nat → Option (Nat × Nat)} : ∀ (ps : List (Nat × Bool × A)) (vs : List (Nat × Value)) (ls ls' : List L) (cs : Array Value) (p : Prop),
    ps.length = vs.length → (∀ (j : Nat) q v, ps[j]? = some q → vs[j]? = some v → q.1 = v.1 ∧ SR (RL μ ok w) q.2 v.2) → RLs (RL μ ok w) ls cs.toList → fillL place ls ps = some (p, ls') → p →
    ∃ cs', Instr.fill place cs vs = some cs' ∧ RLs (RL μ ok w) ls' cs'.toList
  | [], vs, ls, ls', cs, p, hl, hr, hc, hf, hp => by
    have : vs = [] := List.length_eq_zero_iff.1 hl.symm
    subst this
    simp only [fillL, Option.some.injEq, Prod.mk.injEq] at hf
    exact ⟨cs, rfl, by rw [← hf.2]; exact hc⟩
  | (i, g, a) :: ps, vs, ls, ls', cs, p, hl, hr, hc, hf, hp => by
    cases vs with
    | nil => simp at hl
    | cons v vs =>
      obtain ⟨k, v⟩ := v
      obtain ⟨e, hsr⟩ := hr 0 _ _ rfl rfl
      simp only at e
      subst e
      simp only [fillL] at hf
      cases hpl : place i with
      | none => rw [hpl] at hf; simp at hf
      | some q =>
        obtain ⟨off, size⟩ := q
        rw [hpl] at hf
        simp only at hf
        split at hf
        · rename_i hcond
          cases hrest : fillL place (ls.take off ++ leaves a ++ ls.drop (off + size)) ps with
          | none => rw [hrest] at hf; simp at hf
          | some q =>
            obtain ⟨p', l'⟩ := q
            rw [hrest] at hf
            simp only [Option.map_some, Option.some.injEq, Prod.mk.injEq] at hf
            obtain ⟨rfl, rfl⟩ := hf
            obtain ⟨hg, hwh, hp'⟩ := hp
            have hlv := leaves_ok (hsr hg) hwh
            have hvs : v.cells.size = size := by
              have h8 : (leaves a).length = v.cells.toList.length := hlv.1
              have h9 : v.cells.toList.length = v.cells.size := Array.length_toList
              omega
            have hcs : off + size ≤ cs.size := by have h8 := hc.1; have h9 : cs.toList.length = cs.size := Array.length_toList; omega
            have hfo := foldl_set v.cells.toList cs off 0 (by rw [Array.length_toList]; omega)
            have hnew : RLs (RL μ ok w) (ls.take off ++ leaves a ++ ls.drop (off + size)) ((v.cells.toList.zipIdx 0).foldl (fun cs (x : Value × Nat) => cs.setIfInBounds (off + x.2) x.1) cs).toList := by
              rw [hfo, Nat.add_zero, Array.length_toList, hvs]
              exact RLs.append (RLs.append (hc.take off) hlv) (hc.drop _)
            obtain ⟨cs', h1, h2⟩ := fill_ok ps vs _ l' _ p' (by simpa using hl) (fun j q u hq hu => hr (j + 1) q u hq hu) hnew hrest hp'
            refine ⟨cs', ?_, h2⟩
            rw [Instr.fill, hpl]
            simp only
            rw [if_neg (by simp [hvs]; omega)]
            rw [← h1]
            congr 1
            rw [← Array.foldl_toList]
            simp [Array.toList_zipIdx]
        · cases hf
theorem places_ok (hT : ∀ t i, T t = some i → TyOK P t i) : ∀ (fa : List Field), (fa.map fun f => (f.offset, f.type)).all (fun p => T.known p.2) = true →
    fa.mapM (fun f => (P.info? f.type).map fun i => (f.offset, i.size)) = some ((fa.map fun f => (f.offset, f.type)).map fun p => (p.1, T.size p.2))
  | [], _ => rfl
  | f :: fa, h => by
    simp only [List.map_cons, List.all_cons, Bool.and_eq_true] at h
    obtain ⟨i, hi, hs⟩ := known_some h.1
    obtain ⟨j, z, h1, h2, _⟩ := (hT _ _ hi).info
    simp [List.mapM_cons, places_ok hT fa h.2, h1, h2, hs]
theorem pBuild_ok (hT : ∀ t i, T t = some i → TyOK P t i) {t : TypeId} {ps : List (Nat × Bool × A)} {vs : Array (Nat × Value)} (hl : ps.length = vs.toList.length)
    (hr : ∀ (j : Nat) q v, ps[j]? = some q → vs.toList[j]? = some v → q.1 = v.1 ∧ SR (RL μ ok w) q.2 v.2) (h : (pBuild T t ps).1) : ∃ r, (∀ w' : World, True → (Instr.build t vs).run P w' = .ok r w') ∧ RA (RL μ ok w) (pBuild T t ps).2 r := by
  unfold pBuild at h ⊢
  split at h
  · rename_i fs _ _ _ z hTs
    split at h
    · rename_i p ls hf
      obtain ⟨hp, hk⟩ := h
      obtain ⟨fa, hu, hfs⟩ := struct_under hT hTs
      obtain ⟨j, zv, h1, h2, h3, h4, h5⟩ := (hT _ _ hTs).info
      have hpl := places_ok hT fa.toList (by rw [hfs]; exact hk)
      rw [hfs] at hpl
      have hplace : (fun (i : Nat) => (fs[i]?).map fun (p : Nat × TypeId) => (p.1, T.size p.2)) = fun (i : Nat) => (fs.map fun (p : Nat × TypeId) => (p.1, T.size p.2)).toArray[i]? := by
        funext i; simp
      rw [hplace] at hf
      obtain ⟨cs', h6, h7⟩ := fill_ok ps vs.toList _ ls zv.cells p hl hr (by rw [h5]; exact RLs.vals _) hf hp
      refine ⟨.agg cs', fun w' _ => run_build w' t vs cs' ?_, cs', rfl, h7⟩
      unfold Program.built
      simp only [h1, hu, h4, hpl]
      exact h6
    · exact h.elim
  · exact h.elim
/-- It looks at registers alone. -/
def memFree : Op → Bool
  | .load .. => false
  | _ => true
/-- What only reads: it yields what is told, and turns nothing. -/
theorem pure_ok (hT : ∀ t i, T t = some i → TyOK P t i) {σ : St} {a : Act} {o : Oper} {p : Prop} {r : A} (h : pure? T σ o.op = some (p, r)) (hR : Rl μ ok σ a w) (hp : p) :
    ∃ v, (∀ w', (memFree o.op = true ∨ Ag μ ok σ.bx w w') → (execOp a.eval o).run P w' = .ok (.value v) w') ∧ RA (RL μ ok w) r v := by
  have ev : ∀ x, SR (RL μ ok w) (strip (σ.ev x)) (a.eval x) := fun x => SR.of (ev_ok hR x)
  have fin : ∀ {s : Sem Value} {r' : A} {D : World → Prop}, (∃ v, (∀ w', D w' → s.run P w' = .ok v w') ∧ RA (RL μ ok w) r' v) → r' = r → ∃ v, (∀ w', D w' → (do pure (.value (← s)) : Sem Next).run P w' = .ok (.value v) w') ∧ RA (RL μ ok w) r v := by
    rintro s r' D ⟨v, h1, h2⟩ rfl
    exact ⟨v, fun w' hw' => by simp [h1 w' hw'], h2⟩
  have wide : ∀ {s : Sem Value} {r' : A}, (∃ v, (∀ w' : World, True → s.run P w' = .ok v w') ∧ RA (RL μ ok w) r' v) → r' = r → ∃ v, (∀ w', (true = true ∨ Ag μ ok σ.bx w w') → (do pure (.value (← s)) : Sem Next).run P w' = .ok (.value v) w') ∧ RA (RL μ ok w) r v := fun h1 h2 => let ⟨v, h3, h4⟩ := fin h1 h2; ⟨v, fun w' _ => h3 w' trivial, h4⟩
  obtain ⟨dst, op, ty, pos, after, guard⟩ := o
  cases op with
  | move x =>
    simp only [pure?, Option.some.injEq, Prod.mk.injEq] at h
    obtain ⟨_, rfl⟩ := h
    exact ⟨_, fun _ _ => rfl, ev_ok hR x⟩
  | assign x =>
    simp only [pure?, Option.some.injEq, Prod.mk.injEq] at h
    obtain ⟨_, rfl⟩ := h
    exact ⟨_, fun _ _ => rfl, ev_ok hR x⟩
  | pick c x y =>
    simp only [pure?, Option.some.injEq] at h
    have h1 : (pPick (strip (σ.ev c)) (strip (σ.ev x)) (strip (σ.ev y))).1 := by rw [h]; exact hp
    obtain ⟨v, h2, h3⟩ := pPick_ok (P := P) (ev c) (ev x) (ev y) h1
    rw [h] at h3
    refine ⟨v, fun w' hw' => ?_, h3⟩
    have h2 := h2 w' trivial
    simp only [execOp]
    simp only [Sem.run_bind, Sem.run_pure] at h2 ⊢
    cases hb : (asBool (a.eval c)).run P w' with
    | ok b w2 =>
      rw [hb] at h2
      simp only [Result.andThen_ok, Result.ok.injEq] at h2 ⊢
      exact ⟨by rw [h2.1], h2.2⟩
    | halt e w2 => rw [hb] at h2; simp at h2
  | binOp op t x y t2 =>
    simp only [pure?, Option.some.injEq] at h
    have h1 : (pBin T t op (isLit x || isLit y) (strip (σ.ev x)) (strip (σ.ev y))).1 := by rw [h]; exact hp
    exact wide (pBin_ok hT (ox := x) (oy := y) (ev x) (ev y) h1) (by rw [h])
  | unOp op t x =>
    cases op with
    | not =>
      simp only [pure?, Option.some.injEq] at h
      have h1 : (pNot (strip (σ.ev x))).1 := by rw [h]; exact hp
      exact wide (pNot_ok (ev x) h1) (by rw [h])
    | neg =>
      simp only [pure?, Option.some.injEq] at h
      have h1 : (pNeg (strip (σ.ev x))).1 := by rw [h]; exact hp
      exact wide (pNeg_ok (ev x) h1) (by rw [h])
    | _ => simp [pure?] at h
  | nilCheck x =>
    simp only [pure?, Option.some.injEq] at h
    have hx := ev x
    have fin2 : ∀ (L0 : A) (g : Bool), pNil (strip (σ.ev x)) = (g = true, L0) → strip (σ.ev x) = (g, L0) → (RA (RL μ ok w) L0 (a.eval x) → ∃ y, a.eval x = y ∧ ((∃ b, y = .pointer (some b)) ∨ ∃ f z c, y = .func (.func f) z c)) →
        ∃ v, (∀ w', (memFree (.nilCheck x) = true ∨ Ag μ ok σ.bx w w') → (execOp a.eval { dst := dst, op := .nilCheck x, type := ty, pos := pos, after := after, guard := guard }).run P w' = .ok (.value v) w') ∧ RA (RL μ ok w) r v := by
      intro L0 g h1 h2 h3
      rw [h1] at h
      simp only [Prod.mk.injEq] at h
      obtain ⟨h4, rfl⟩ := h
      rw [h2] at hx
      have hx := hx (by rw [← h4] at hp; exact hp)
      refine ⟨_, fun w' _ => ?_, hx⟩
      obtain ⟨y, hy, ⟨b, rfl⟩ | ⟨f, z, c, rfl⟩⟩ := h3 hx
      · simp only [execOp, hy]; rfl
      · simp only [execOp, hy]; rfl
    generalize hs : strip (σ.ev x) = s at hx fin2
    rw [hs] at h
    unfold pNil at h
    split at h
    · exact fin2 _ _ rfl rfl (fun hu => by obtain ⟨g, _, hu⟩ := hu; exact ⟨_, hu, .inl ⟨_, rfl⟩⟩)
    · exact fin2 _ _ rfl rfl (fun hu => by obtain ⟨g, _, hu⟩ := hu; exact ⟨_, hu, .inl ⟨_, rfl⟩⟩)
    · exact fin2 _ _ rfl rfl (fun hu => by obtain ⟨g, hu, _⟩ := hu; exact ⟨_, hu, .inl ⟨_, rfl⟩⟩)
    · exact fin2 _ _ rfl rfl (fun hu => by obtain ⟨g, _, _, hu⟩ := hu; exact ⟨_, hu, .inr ⟨_, _, _, rfl⟩⟩)
    · simp only [Prod.mk.injEq] at h
      rw [← h.1] at hp
      exact hp.elim
  | convert s d x =>
    simp only [pure?] at h
    split at h
    · simp only [Option.some.injEq] at h
      have h1 : (pConv T s d (strip (σ.ev x))).1 := by rw [h]; exact hp
      exact wide (pConv_ok hT (ev x) h1) (by rw [h])
    · cases h
  | load t x =>
    simp only [pure?, Option.some.injEq] at h
    have h1 : (pLoad T σ.bx t (strip (σ.ev x))).1 := by rw [h]; exact hp
    obtain ⟨v, h3, h4⟩ := fin (pLoad_ok hT hR.mem (ev x) h1) (by rw [h])
    exact ⟨v, fun w' hw' => h3 w' (hw'.elim (fun e => by cases e) (_root_.id)), h4⟩
  | fieldAddr s x k =>
    simp only [pure?, Option.some.injEq] at h
    have h1 : (pFieldAddr T s (strip (σ.ev x)) k).1 := by rw [h]; exact hp
    exact wide (pFieldAddr_ok hT (ev x) h1) (by rw [h])
  | field s x k =>
    simp only [pure?, Option.some.injEq] at h
    have h1 : (pField T s (strip (σ.ev x)) k).1 := by rw [h]; exact hp
    exact wide (pField_ok hT (ev x) h1) (by rw [h])
  | indexAddr t x i =>
    simp only [pure?, Option.some.injEq] at h
    have h1 : (pIndexAddr T t (strip (σ.ev x)) (strip (σ.ev i))).1 := by rw [h]; exact hp
    exact wide (pIndexAddr_ok hT (ev x) (ev i) h1) (by rw [h])
  | index t x i =>
    simp only [pure?, Option.some.injEq] at h
    have h1 : (pIndex T t (strip (σ.ev x)) (strip (σ.ev i))).1 := by rw [h]; exact hp
    exact wide (pIndex_ok hT (ev x) (ev i) h1) (by rw [h])
  | extract x i =>
    simp only [pure?, Option.some.injEq] at h
    have h1 : (pExtract (strip (σ.ev x)) i).1 := by rw [h]; exact hp
    exact wide (pExtract_ok (ev x) h1) (by rw [h])
  | slice t x lo hi mx =>
    cases mx with
    | some m => simp [pure?] at h
    | none =>
      simp only [pure?, Option.some.injEq] at h
      have h1 : (pSlice T t (strip (σ.ev x)) (lo.map fun y => strip (σ.ev y)) (hi.map fun y => strip (σ.ev y))).1 := by rw [h]; exact hp
      have hop : ∀ z : Option Operand, (∀ y, (z.map fun y => strip (σ.ev y)) = some y → ∃ v, z.map a.eval = some v ∧ SR (RL μ ok w) y v) ∧ ((z.map fun y => strip (σ.ev y)) = none → z.map a.eval = none) := by
        intro z
        cases z with
        | none => exact ⟨fun y hy => by simp at hy, fun _ => rfl⟩
        | some q => exact ⟨fun y hy => ⟨_, rfl, by obtain rfl : strip (σ.ev q) = y := by simpa using hy
                                                   exact ev q⟩, fun hh => by simp at hh⟩
      exact wide (pSlice_ok (ul := lo.map a.eval) (uh := hi.map a.eval) hT (ev x) (hop lo).1 (hop lo).2 (hop hi).1 (hop hi).2 h1) (by rw [h])
  | build t parts =>
    simp only [pure?, Option.some.injEq] at h
    have h1 : (pBuild T t (parts.toList.map fun p => (p.1, strip (σ.ev p.2)))).1 := by rw [h]; exact hp
    refine wide (pBuild_ok (vs := parts.map fun (i, x) => (i, a.eval x)) hT (by simp) (fun j q v hq hv => ?_) h1) (by rw [h])
    simp only [Array.toList_map, List.getElem?_map] at hq hv
    cases hz : parts.toList[j]? with
    | none => rw [hz] at hq; simp at hq
    | some z =>
      rw [hz] at hq hv
      simp only [Option.map_some, Option.some.injEq] at hq hv
      subst hq hv
      exact ⟨rfl, ev z.2⟩
  | call c =>
    obtain ⟨cal, xs, ts⟩ := c
    cases cal with
    | builtin b =>
      cases b with
      | len =>
        simp only [pure?] at h
        split at h
        · rename_i x t hx ht
          simp only [Option.some.injEq] at h
          have h1 : (pLen T t (strip (σ.ev x))).1 := by rw [h]; exact hp
          have e1 : xs = #[x] := by apply Array.ext'; simpa using hx
          have e2 : ts = #[t] := by apply Array.ext'; simpa using ht
          subst e1 e2
          have := wide (pLen_ok (ty := ty) hT (ev x) h1) (by rw [h])
          simpa [execOp, resolve, invoke, builtin, memFree] using this
        · cases h
      | min =>
        simp only [pure?] at h
        split at h
        · rename_i x y hx
          simp only [Option.some.injEq] at h
          have h1 : (pMin false (strip (σ.ev x)) (strip (σ.ev y))).1 := by rw [h]; exact hp
          have e1 : xs = #[x, y] := by apply Array.ext'; simpa using hx
          subst e1
          have := wide (pMin_ok (ts := ts) (t := ty) (ev x) (ev y) h1) (by rw [h])
          simpa [execOp, resolve, invoke, builtin, memFree] using this
        · cases h
      | max =>
        simp only [pure?] at h
        split at h
        · rename_i x y hx
          simp only [Option.some.injEq] at h
          have h1 : (pMin true (strip (σ.ev x)) (strip (σ.ev y))).1 := by rw [h]; exact hp
          have e1 : xs = #[x, y] := by apply Array.ext'; simpa using hx
          subst e1
          have := wide (pMin_ok (ts := ts) (t := ty) (ev x) (ev y) h1) (by rw [h])
          simpa [execOp, resolve, invoke, builtin, memFree] using this
        · cases h
      | _ => simp [pure?] at h
    | _ => simp [pure?] at h
  | _ => simp [pure?] at h
end
/-! Sixth part: what writes, makes and calls: the words. -/
def vwC : L → C
  | .c x => x
  | _ => .any
/-- A row's elements, as they are looked at. -/
def vw (es : List (List L)) : Nat → Nat → C := fun i j => vwC ((es.getD i []).getD j .junk)
/-- An own row, looked at. -/
def viewL (bx : List B) : L → L
  | .own id sz o n => match bx[id]? with
    | some (.arr es sz' _) => if sz = sz' ∧ o + n ≤ es.length then .c (.sl n sz (fun i => vw es (o + i))) else .junk
    | _ => .junk
  | .ptr _ _ => .junk
  | .ep _ _ _ _ => .junk
  | .fn f caps => if caps = [] then .fn f [] else .junk
  | l => l
/-- Own memory by new numbers (ρ); where there is none, an own row is looked at, and all else is let go. -/
def subL (bx : List B) (ρ : Nat → Option Nat) : L → L
  | .own id sz o n => match ρ id with
    | some k => .own k sz o n
    | none => viewL bx (.own id sz o n)
  | .ptr id off => match ρ id with
    | some k => .ptr k off
    | none => .junk
  | .ep id sz i off => match ρ id with
    | some k => .ep k sz i off
    | none => .junk
  | .fn f caps => match caps.mapM ρ with
    | some cs => .fn f cs
    | none => .junk
  | l => l
/-- A map of what is told, leaf by leaf. -/
def mapA (f : L → L) : A → A
  | .one l => .one (f l)
  | .agg ls => .agg (ls.map f)
  | .tup xs => .tup (xs.map fun x => (x.1.map f, x.2))
  | .opt g a => .opt g (mapA f a)
def mapB (f : L → L) : B → B
  | .var ls t => .var (ls.map f) t
  | .arr es sz t => .arr (es.map fun e => e.map f) sz t
  | b => b
/-- Where it stands in a list. -/
def pos : List Nat → Nat → Option Nat
  | [], _ => none
  | a :: r, x => if a = x then some 0 else (pos r x).map (· + 1)
def upto : Nat → Nat → List Nat
  | _, 0 => []
  | k, n + 1 => k :: upto (k + 1) n
def idsL : L → List Nat
  | .own id _ _ _ => [id]
  | _ => []
def idsA : A → List Nat
  | .one l => idsL l
  | .agg ls => ls.flatMap idsL
  | .tup xs => xs.flatMap fun x => x.1.flatMap idsL
  | .opt _ a => idsA a
def leafIn (l : L) : A → Prop
  | .one l' => l = l'
  | .agg ls => l ∈ ls
  | .tup xs => ∃ x, x ∈ xs ∧ l ∈ x.1
  | .opt _ a => leafIn l a
/-- The own blocks that go on: the lent ones, and some more. -/
def St.ids (σ : St) (js : List Nat) : List Nat := upto 0 σ.m ++ js
def St.good (σ : St) (js : List Nat) : Prop := (σ.ids js).Nodup ∧ ∀ j, j ∈ js → j < σ.bx.length
/-- The registers that are looked at later, and some own blocks. -/
def St.keep (σ : St) (ks js : List Nat) : St :=
  { σ with tm := ks.map fun k => (k, mapA (subL σ.bx (pos (σ.ids js))) (lk σ.tm k)), bx := (σ.ids js).map fun i => mapB (subL σ.bx (pos (σ.ids js))) (σ.bx.getD i .hid) }
/-- The call of a function: what it returns (r), and the memory that is its own, or lent, behind it (bx). -/
def PC (P : Program) (f : FuncId) (args : List A) (bx0 : List B) (Q : A → List B → Prop) : Prop :=
  (∃ fn, P.funcs[f]? = some fn ∧ (fn.name == "runtime.NumGoroutine") = false ∧ fn.body.isSome = true) ∧
  ∀ (ok : Nat → Prop) (μ0 : List Nat) (w : World) (cargs : Array Value), (∀ b, b ∈ bx0 → b ≠ .hid) → Mem μ0 ok bx0 w → args.length = cargs.size → (∀ (j : Nat) a, args[j]? = some a → ∃ v, cargs[j]? = some v ∧ RA (RL μ0 ok w) a v) →
    Calls P f cargs w fun e w' => ∃ cv r bx ν ok', e = .returned cv ∧ Q r bx ∧ RA (RL (μ0 ++ ν) ok' w') r cv ∧ Mem (μ0 ++ ν) ok' bx w' ∧ (∀ g, g ∈ ν → w.heap.size ≤ g ∨ g ∈ μ0) ∧ Fw μ0 w w' ∧ (∀ k, ok k → ok' k) ∧ (∀ k, ok' k → ok k ∨ w.heap.size ≤ k ∨ k ∈ μ0)
theorem PC.mono {P : Program} {f : FuncId} {args : List A} {bx0 : List B} {Q Q' : A → List B → Prop} (h : PC P f args bx0 Q) (hq : ∀ r bx, Q r bx → Q' r bx) : PC P f args bx0 Q' :=
  ⟨h.1, fun ok μ0 w cargs h0 h1 h2 h3 => (h.2 ok μ0 w cargs h0 h1 h2 h3).mono fun e w' ⟨cv, r, bx, ν, ok', he, hQ, rest⟩ => ⟨cv, r, bx, ν, ok', he, hq _ _ hQ, rest⟩⟩
/-- The caller's numbers of the callee's blocks. -/
def up (lids : List Nat) (n : Nat) (k : Nat) : Option Nat := some (if k < lids.length then lids.getD k 0 else n + (k - lids.length))
def putBack : List B → List Nat → List B → List B
  | bx, i :: is, b :: bs => putBack (bx.set i b) is bs
  | bx, _, _ => bx
def St.after (σ : St) (lids : List Nat) (n : Nat) (bx : List B) : St :=
  { σ with bx := putBack σ.bx lids ((bx.take lids.length).map (mapB (subL [] (up lids n)))) ++ (bx.drop lids.length).map (mapB (subL [] (up lids n))) }
def outside (ids : List Nat) (i : Nat) : Option Nat := if i ∈ ids then none else some i
/-- Own rows that are never written again. -/
def St.freeze (σ : St) (ids : List Nat) : St :=
  { σ with tm := σ.tm.map fun p => (p.1, mapA (subL σ.bx (outside ids)) p.2), bx := (σ.bx.map (mapB (subL σ.bx (outside ids)))).zipIdx.map fun p => if p.2 ∈ ids then .hid else p.1 }
/-- It leans on no row that is never written again. -/
def cleanL : L → Bool
  | .c (.sl _ _ _) => false
  | .rp _ _ => false
  | _ => true
def cleanA (a : A) : Prop := ∀ l, leafIn l a → cleanL l = true
def cleanB : B → Prop
  | .var ls _ => ls.all cleanL = true
  | .arr es _ _ => ∀ e, e ∈ es → e.all cleanL = true
  | _ => True
def cleanBs : List B → Prop
  | [] => True
  | b :: r => cleanB b ∧ cleanBs r
def callK (σ : St) (lids vids : List Nat) (k : A → St → Prop) (r : A) (bx : List B) : Prop :=
  if vids = [] then k (mapA (subL [] (up lids σ.bx.length)) r) (σ.after lids σ.bx.length bx)
  else (cleanA r ∧ cleanBs bx ∧ k (mapA (subL [] (up lids σ.bx.length)) r) (σ.after lids σ.bx.length bx)) ∨ k (mapA (subL [] (up lids σ.bx.length)) r) ((σ.freeze vids).after lids σ.bx.length bx)
def notHid : Option B → Bool
  | some .hid => false
  | some _ => true
  | none => false
def zeroL (T : Ty) (t : TypeId) : List L := match T t with | some i => i.zero.map fun x => .c (.v x) | none => []
/-- An own variable's cells, some of them stored anew. -/
def setLs (ls : List L) (off : Nat) (vs : List L) : List L := ls.take off ++ vs ++ ls.drop (off + vs.length)
def eStore (T : Ty) (σ : St) (t : TypeId) (x v : Bool × A) (k : A → St → Prop) : Prop :=
  match x with
  | (g, .one (.ptr id off)) => match σ.bx[id]? with
    | some (.var ls t') => g = true ∧ v.1 = true ∧ whole v.2 = true ∧ T.known t = true ∧ (leaves v.2).length = T.size t ∧ (leaves v.2).all lcell = true ∧ off + T.size t ≤ ls.length ∧
        k .junk { σ with bx := σ.bx.set id (.var (setLs ls off (leaves v.2)) t') }
    | _ => False
  | (g, .one (.ep id sz i off)) => match σ.bx[id]? with
    | some (.arr es sz' t') => g = true ∧ v.1 = true ∧ whole v.2 = true ∧ T.known t = true ∧ (leaves v.2).length = T.size t ∧ (leaves v.2).all lcell = true ∧ sz = sz' ∧ i < es.length ∧ off + T.size t ≤ sz ∧
        k .junk { σ with bx := σ.bx.set id (.arr (es.set i (setLs (es.getD i []) off (leaves v.2))) sz' t') }
    | _ => False
  | _ => False
def rowList (n sz : Nat) (f : Nat → Nat → C) : List (List L) := (List.range n).map fun i => (List.range sz).map fun j => .c (f i j)
def bytesL (s : ByteArray) : List (List L) := s.data.toList.map fun b => [.c (.v (.int .u8 (b.toNat : Int)))]
/-- The elements of a row that is looked at: how many cells each has, and they. -/
def rowOf (bx : List B) : L → Option (Nat × List (List L))
  | .c (.sl n sz f) => some (sz, rowList n sz f)
  | .c (.v (.string s)) => some (1, bytesL s)
  | .own id sz o n => match bx[id]? with
    | some (.arr es sz' _) => if sz = sz' ∧ o + n ≤ es.length then some (sz, (es.drop o).take n) else none
    | _ => none
  | _ => none
def Ty.bytes (T : Ty) (t : TypeId) : Nat := match T t with | some i => i.bytes | none => 0
def allCell (es : List (List L)) : Prop := ∀ e, e ∈ es → e.all lcell = true
def srcOK (T : Ty) (t : TypeId) (l : L) : Bool :=
  match T t, l with
  | some ⟨.slice _, _, _, _⟩, .c (.v _) => false
  | some ⟨.slice _, _, _, _⟩, _ => true
  | some ⟨.prim .string, _, _, _⟩, .c (.v (.string _)) => true
  | _, _ => false
def eAppend (T : Ty) (σ : St) (t t2 : TypeId) (s x : Bool × A) (k : A → St → Prop) : Prop :=
  match T t with
  | some ⟨.slice e, _, _, _⟩ => match s, x with
    | (g, .one sl), (g', .one xl) => match rowOf σ.bx xl with
      | some (sz, ns) => match sl with
        | .c (.v (.slice none 0 0)) => allCell ns ∧ srcOK T t2 xl = true ∧ g = true ∧ g' = true ∧ T.known e = true ∧ T.size e = sz ∧ 0 < sz ∧ 0 < ns.length ∧ ns.length * T.bytes e ≤ 140737488355328 ∧ ns.length ≤ maxLen ∧
            k (.one (.own σ.bx.length sz 0 ns.length)) { σ with bx := σ.bx ++ [.arr ns sz e] }
        | .own id sz' 0 n => match σ.bx[id]? with
          | some (.arr es sz'' t') => allCell ns ∧ srcOK T t2 xl = true ∧ g = true ∧ g' = true ∧ T.known e = true ∧ T.size e = sz ∧ 0 < sz ∧ sz' = sz ∧ sz'' = sz ∧ t' = e ∧ n ≤ es.length ∧ (n + ns.length) * T.bytes e ≤ 140737488355328 ∧ n + ns.length ≤ maxLen ∧
              k (.one (.own σ.bx.length sz 0 (n + ns.length))) { σ with bx := σ.bx.set id .hid ++ [.arr (es.take n ++ ns) sz e] }
          | _ => False
        | _ => False
      | none => False
    | _, _ => False
  | _ => False
def eMake (T : Ty) (σ : St) (t : TypeId) (l c : Bool × A) (k : A → St → Prop) : Prop :=
  match T t with
  | some ⟨.slice e, _, _, _⟩ => match l, c with
    | (g, .one (.c (.v (.int _ n)))), (g', .one (.c (.v (.int _ m)))) => g = true ∧ g' = true ∧ 0 ≤ n ∧ n ≤ m ∧ T.known e = true ∧ 0 < T.size e ∧ m.toNat ≤ maxLen ∧ T.bytes e * m.toNat ≤ 281474976710656 ∧
        (zeroL T e).length = T.size e ∧
        k (.one (.own σ.bx.length (T.size e) 0 n.toNat)) { σ with bx := σ.bx ++ [.arr (List.replicate n.toNat (zeroL T e)) (T.size e) e] }
    | _, _ => False
  | _ => False
def eLit (T : Ty) (σ : St) (t : TypeId) (n : Nat) (ps : List (Nat × Bool × A)) (k : A → St → Prop) : Prop :=
  match T t with
  | some ⟨.slice e, _, _, _⟩ => (ps.map (·.1)) = List.range n ∧ (ps.all fun p => p.2.1 && whole p.2.2 && (leaves p.2.2).all lcell) = true ∧ T.known e = true ∧ 0 < T.size e ∧ n ≤ 1000 ∧ T.size e ≤ 1000 ∧ (ps.all fun p => (leaves p.2.2).length == T.size e) = true ∧
        k (.one (.own σ.bx.length (T.size e) 0 n)) { σ with bx := σ.bx ++ [.arr (ps.map fun p => leaves p.2.2) (T.size e) e] }
  | _ => False
/-- The bytes of a row, as a text. -/
def textOf (es : List (List L)) : ByteArray := ⟨(es.map fun e => match e with | [.c (.v (.int _ b))] => UInt8.ofNat b.toNat | _ => 0).toArray⟩
def allByte (es : List (List L)) : Prop := ∀ e, e ∈ es → ∃ b, e = [.c (.v (.int .u8 b))]
def eConv (T : Ty) (σ : St) (s d : TypeId) (x : Bool × A) (k : A → St → Prop) : Prop :=
  match T s, T d with
  | some ⟨.slice e, _, _, _⟩, some ⟨.prim .string, _, _, _⟩ => match T e with
    | some ⟨.prim (.int .u8), _, _, _⟩ => match x with
      | (g, .one xl) => match rowOf σ.bx xl with
        | some (sz, ns) => g = true ∧ sz = 1 ∧ srcOK T s xl = true ∧ allByte ns ∧ k (.str (textOf ns)) σ
        | none => False
      | _ => False
    | _ => False
  | _, _ => False
def eRange (T : Ty) (σ : St) (t : TypeId) (x : Bool × A) (k : A → St → Prop) : Prop :=
  match T t, x with
  | some ⟨.prim .string, _, _, _⟩, (g, .one (.c (.v (.string s)))) => g = true ∧ k (.one (.ptr σ.bx.length 0)) { σ with bx := σ.bx ++ [.iter s 0] }
  | _, _ => False
def eNext (σ : St) (x : Bool × A) (k : A → St → Prop) : Prop :=
  match x with
  | (g, .one (.ptr id 0)) => match σ.bx[id]? with
    | some (.iter s p) => g = true ∧
        (p < s.size → k (.tup [([.c (.v (.bool true))], false), ([.c (.v (.int .i64 (p : Int)))], false), ([.c (.v (.int .i32 ((Utf8.decode s p).1 : Int)))], false)]) { σ with bx := σ.bx.set id (.iter s (p + (Utf8.decode s p).2)) }) ∧
        (¬ p < s.size → k (.tup [([.c (.v (.bool false))], false)]) σ)
    | _ => False
  | _ => False
/-- May these blocks be lent to a call? none: whichever. -/
def lentIn : Option (List Nat) → List Nat → Prop
  | none, _ => True
  | some D, l => (l.all fun i => D.contains i) = true
/-- A call: some own blocks are lent to it (lids); own rows that it is handed, and that are not lent, are looked at. gr: it may make memory, and writes none that was there but some own blocks. -/
def eCall (P : Program) (gr : Option (List Nat)) (σ : St) (g : FuncId) (caps : List Nat) (xs : List A) (k : A → St → Prop) : Prop :=
  ∃ lids : List Nat, lentIn gr lids ∧ lids.Nodup ∧ (lids.all fun i => notHid σ.bx[i]?) = true ∧
    PC P g ((xs.map fun x => mapA (subL σ.bx (pos lids)) x) ++ caps.map fun c => .one (subL σ.bx (pos lids) (.ptr c 0))) (lids.map fun i => mapB (subL [] (pos lids)) (σ.bx.getD i .hid))
      (callK σ lids ((xs.flatMap idsA).filter fun i => !lids.contains i) k)
def eff (P : Program) (T : Ty) (gr : Option (List Nat)) (o : Oper) (σ : St) (k : A → St → Prop) : Prop :=
  match o.op with
  | .alloc t => T.known t = true ∧ k (.one (.ptr σ.bx.length 0)) { σ with bx := σ.bx ++ [.var (zeroL T t) t] }
  | .box t x => (strip (σ.ev x)).1 = true ∧ whole (strip (σ.ev x)).2 = true ∧ k (.one (.ptr σ.bx.length 0)) { σ with bx := σ.bx ++ [.var (leaves (strip (σ.ev x)).2) t] }
  | .store t x y => gr = none ∧ eStore T σ t (strip (σ.ev x)) (strip (σ.ev y)) k
  | .makeFunc (.func f) fs cs => fs = #[] ∧ match cs.toList.mapM (fun c => match strip (σ.ev c) with | (true, .one (.ptr id 0)) => some id | _ => none) with
      | some ids => k (.one (.fn f ids)) σ
      | none => False
  | .makeSlice t l c => eMake T σ t (strip (σ.ev l)) (strip (σ.ev c)) k
  | .buildSlice t n ps => eLit T σ t n (ps.toList.map fun p => (p.1, strip (σ.ev p.2))) k
  | .convert s d x => eConv T σ s d (strip (σ.ev x)) k
  | .range t x => eRange T σ t (strip (σ.ev x)) k
  | .next x true => gr = none ∧ eNext σ (strip (σ.ev x)) k
  | .call ⟨.builtin .append, xs, ts⟩ => gr = none ∧ match xs.toList, ts.toList with
    | [s, x], [t, t'] => eAppend T σ t t' (strip (σ.ev s)) (strip (σ.ev x)) k
    | _, _ => False
  | .call ⟨.value f, xs, _⟩ => match strip (σ.ev f) with
    | (true, .one (.fn g caps)) => (xs.toList.all fun x => (strip (σ.ev x)).1) = true ∧ eCall P gr σ g caps (xs.toList.map fun x => (strip (σ.ev x)).2) k
    | _ => False
  | _ => False
/-- Is a guarded operation wanted? -/
def gval (σ : St) (ops : Array Oper) (j : Nat) (b : Bool) : Option Bool :=
  match (ops[j]?).bind (·.dst) with
  | some d => match strip (lk σ.tm d) with
    | (g, .one (.c (.v (.bool t)))) => some (g && (t == b))
    | (false, _) => some false
    | (true, .one (.c (.v (.tuple _)))) => some false
    | _ => none
  | none => none
def aoper (P : Program) (T : Ty) (gr : Option (List Nat)) (ops : Array Oper) (o : Oper) (σ : St) (k : St → Prop) : Prop :=
  match o.guard with
  | none => match pure? T σ o.op with
    | some (p, r) => p ∧ k (σ.putO o.dst r)
    | none => eff P T gr o σ fun r σ' => k (σ'.putO o.dst r)
  | some (j, b) => match gval σ ops j b with
    | some g => match pure? T σ o.op with
      | some (p, r) => (g = true → p) ∧ k (σ.putO o.dst (.opt g r))
      | none => (g = true → eff P T gr o σ fun r σ' => k (σ'.putO o.dst r)) ∧ (g = false → k (σ.putO o.dst (.v undef)))
    | none => False
def aops (P : Program) (T : Ty) (ops : Array Oper) : List Oper → St → (St → Prop) → Prop
  | [], σ, k => k σ
  | o :: r, σ, k => aoper P T none ops o σ fun σ' => aops P T ops r σ' k
/-- What an operation that only reads asks and yields, its guard minded. -/
def areg (T : Ty) (ops : Array Oper) (o : Oper) (σ : St) : Option (Prop × A) :=
  match o.guard with
  | none => pure? T σ o.op
  | some (j, b) => match gval σ ops j b with
    | some g => match pure? T σ o.op with
      | some (p, r) => some (g = true → p, .opt g r)
      | none => none
    | none => none
/-- How the operations of a region whose order is drawn are walked. take: it reads what no other of them turns; pure: it looks at registers alone; one: none but it may come up; last: the same, and it writes. -/
inductive Sp where
  | take (i : Nat)
  | pure (i : Nat)
  | one (i : Nat)
  | last (i : Nat)
def lasts : List Sp → List Nat
  | [] => []
  | .last i :: r => i :: lasts r
  | _ :: r => lasts r
def bitsOf (T : List (List Nat × List Nat)) : List Nat := T.foldl (fun B r => B ++ [upM B B.length r.1]) []
def planT (T : Bool × List (List Nat × List Nat)) (B ds : List Nat) : List Sp → List Bool → Bool
  | [], l => readyT T.2 l == []
  | .take i :: r, l => freeT T.2 l i && readyAt T.2 l i && closedT T.2 l && lastW T.2 B l ds i && planT T B ds r (l.set i true)
  | .pure i :: r, l => freeT T.2 l i && readyAt T.2 l i && planT T B ds r (l.set i true)
  | .one i :: r, l => readyT T.2 l == [i] && !ds.contains i && planT T B ds r (l.set i true)
  | .last i :: r, l => readyT T.2 l == [i] && ds.contains i && planT T B ds r (l.set i true)
def planB (ops : Array Oper) (p : List Sp) : Bool :=
  let T := rtab .any ops
  let B := bitsOf T.2
  T.1 && waitsOk T.2 B && p.length == ops.size && planT T B (lasts p) p (List.replicate ops.size false)
/-- What is known of the memory at the region's start. -/
inductive Md where
  | same
  | old (τ : St)
  | gone
def Md.junk : Md → Option Nat → Md
  | .old τ, d => .old (τ.putO d .junk)
  | m, _ => m
def Md.after (σ : St) (d : Option Nat) : Md → Md
  | .same => .old (σ.putO d .junk)
  | m => m.junk d
/-- Without some own blocks. -/
def hideB : List Nat → Nat → List B → List B
  | _, _, [] => []
  | D, n, b :: r => (if D.contains n then .hid else b) :: hideB D (n + 1) r
def St.hide (σ : St) (D : List Nat) : St := { σ with bx := hideB D 0 σ.bx }
/-- D: the own blocks that calls among them turn. -/
def aplan (P : Program) (T : Ty) (ops : Array Oper) (D : List Nat) : List Sp → Md → St → (St → Prop) → Prop
  | [], _, σ, k => k σ
  | .take i :: r, m, σ, k => match ops[i]? with
    | some o => match m with
      | .same => match areg T ops o (σ.hide D) with
        | some (p, x) => p ∧ aplan P T ops D r .same (σ.putO o.dst x) k
        | none => False
      | .old τ => match areg T ops o (τ.hide D), areg T ops o σ with
        | some (p, x), some (p', x') => p ∧ p' ∧ aplan P T ops D r (.old (τ.putO o.dst x)) (σ.putO o.dst x') k
        | _, _ => False
      | .gone => False
    | none => False
  | .pure i :: r, m, σ, k => match ops[i]? with
    | some o => match areg T ops o σ with
      | some (p, x) => memFree o.op = true ∧ p ∧ aplan P T ops D r (m.junk o.dst) (σ.putO o.dst x) k
      | none => False
    | none => False
  | .one i :: r, m, σ, k => match m with
    | .gone => False
    | m => match ops[i]? with
      | some o => aoper P T (some D) ops o σ fun σ' => aplan P T ops D r (m.after σ o.dst) σ' k
      | none => False
  | .last i :: r, m, σ, k => match ops[i]? with
    | some o => aoper P T none ops o σ fun σ' => aplan P T ops D r .gone σ' k
    | none => False
/-- The same as a tree: where two of them may come up that write or call, either order is walked. -/
inductive Pl where
  | nil
  | take (i : Nat) (r : Pl)
  | pure (i : Nat) (r : Pl)
  | one (i : Nat) (r : Pl)
  | last (i : Nat) (r : Pl)
  | two (i j : Nat) (r s : Pl)
def Pl.lasts : Pl → List Nat
  | .nil => []
  | .take _ r => r.lasts
  | .pure _ r => r.lasts
  | .one _ r => r.lasts
  | .last i r => i :: r.lasts
  | .two _ _ r s => r.lasts ++ s.lasts
def planF (T : Bool × List (List Nat × List Nat)) (B ds : List Nat) : Pl → Nat → List Bool → Bool
  | .nil, _, l => readyT T.2 l == []
  | .take _ _, 0, _ => false
  | .pure _ _, 0, _ => false
  | .one _ _, 0, _ => false
  | .last _ _, 0, _ => false
  | .two _ _ _ _, 0, _ => false
  | .take i r, n + 1, l => freeT T.2 l i && readyAt T.2 l i && closedT T.2 l && lastW T.2 B l ds i && planF T B ds r n (l.set i true)
  | .pure i r, n + 1, l => freeT T.2 l i && readyAt T.2 l i && planF T B ds r n (l.set i true)
  | .one i r, n + 1, l => readyT T.2 l == [i] && !ds.contains i && planF T B ds r n (l.set i true)
  | .last i r, n + 1, l => readyT T.2 l == [i] && ds.contains i && planF T B ds r n (l.set i true)
  | .two i j r s, n + 1, l => readyT T.2 l == [i, j] && !ds.contains i && !ds.contains j && planF T B ds r n (l.set i true) && planF T B ds s n (l.set j true)
def planC (ops : Array Oper) (p : Pl) : Bool :=
  let T := rtab .any ops
  let B := bitsOf T.2
  T.1 && waitsOk T.2 B && planF T B p.lasts p ops.size (List.replicate ops.size false)
def afork (P : Program) (T : Ty) (ops : Array Oper) (D : List Nat) : Pl → Md → St → (St → Prop) → Prop
  | .nil, _, σ, k => k σ
  | .take i r, m, σ, k => match ops[i]? with
    | some o => match m with
      | .same => match areg T ops o (σ.hide D) with
        | some (p, x) => p ∧ afork P T ops D r .same (σ.putO o.dst x) k
        | none => False
      | .old τ => match areg T ops o (τ.hide D), areg T ops o σ with
        | some (p, x), some (p', x') => p ∧ p' ∧ afork P T ops D r (.old (τ.putO o.dst x)) (σ.putO o.dst x') k
        | _, _ => False
      | .gone => False
    | none => False
  | .pure i r, m, σ, k => match ops[i]? with
    | some o => match areg T ops o σ with
      | some (p, x) => memFree o.op = true ∧ p ∧ afork P T ops D r (m.junk o.dst) (σ.putO o.dst x) k
      | none => False
    | none => False
  | .one i r, m, σ, k => match m with
    | .gone => False
    | m => match ops[i]? with
      | some o => aoper P T (some D) ops o σ fun σ' => afork P T ops D r (m.after σ o.dst) σ' k
      | none => False
  | .last i r, m, σ, k => match ops[i]? with
    | some o => aoper P T none ops o σ fun σ' => afork P T ops D r .gone σ' k
    | none => False
  | .two i j r s, m, σ, k => match m with
    | .gone => False
    | m => (match ops[i]? with
      | some o => aoper P T (some D) ops o σ fun σ' => afork P T ops D r (m.after σ o.dst) σ' k
      | none => False) ∧ (match ops[j]? with
      | some o => aoper P T (some D) ops o σ fun σ' => afork P T ops D s (m.after σ o.dst) σ' k
      | none => False)
inductive AE where
  | normal
  | exit (id : Nat)
  | ret
def acond (c : Bool × A) (x y : Prop) : Prop :=
  match c with
  | (g, .one (.c (.v (.bool t)))) => g = true ∧ (t = true → x) ∧ (t = false → y)
  | _ => False
def awp (P : Program) (T : Ty) : Code → (AE → St → Prop) → St → Prop
  | .skip, Q, σ => Q .normal σ
  | .region _ ops false, Q, σ => aops P T ops ops.toList σ (Q .normal)
  | .region _ ops true, Q, σ => (∃ p D, planB ops p = true ∧ (D.all fun i => notHid σ.bx[i]?) = true ∧ aplan P T ops D p .same σ (Q .normal)) ∨ ∃ p D, planC ops p = true ∧ (D.all fun i => notHid σ.bx[i]?) = true ∧ afork P T ops D p .same σ (Q .normal)
  | .seq a b, Q, σ => awp P T a (fun e σ' => match e with | .normal => awp P T b Q σ' ∨ ∃ ks js, σ'.good js ∧ awp P T b Q (σ'.keep ks js) | e => Q e σ') σ
  | .cond c x y, Q, σ => acond (strip (σ.ev c)) (awp P T x Q σ) (awp P T y Q σ)
  | .block id c, Q, σ => awp P T c (fun e σ' => match e with | .exit i => if i = id then Q .normal σ' else Q (.exit i) σ' | e => Q e σ') σ
  | .loop c, Q, σ => ∃ (ks js : List Nat) (I : Nat → St → Prop) (n : Nat), σ.good js ∧ I n (σ.keep ks js) ∧ ∀ n σ', I n σ' → awp P T c (fun e s => match e with | .normal => ∃ m js', m < n ∧ s.good js' ∧ I m (s.keep ks js') | e => Q e s) σ'
  | .exit id, Q, σ => Q (.exit id) σ
  | .ret, Q, σ => Q .ret σ
  | .scope c, Q, σ => awp P T c Q σ
  | _, _, _ => False
section
variable {μ : List Nat} {ok : Nat → Prop} {bx : List B} {w w' : World}
theorem getElem?_append_some {α : Type} {l r : List α} {i : Nat} {x : α} (h : l[i]? = some x) : (l ++ r)[i]? = some x := by
  have hlt : i < l.length := (List.getElem?_eq_some_iff.1 h).1
  rw [List.getElem?_append_left hlt]; exact h
theorem RL_weak (ν : List Nat) {l : L} {u : Value} (h : RL μ ok w l u) : RL (μ ++ ν) ok w l u :=
  RL.congr (fun i g hg => getElem?_append_some hg) (fun _ h => h) (fun _ _ => rfl) (fun g _ cs t h => ⟨cs, h, rfl⟩) l u h
theorem RL_below (hm : Mem μ ok bx w) (hb : Below w.heap.size w w') {l : L} {u : Value} (h : RL μ ok w l u) : RL μ ok w' l u :=
  RL.congr (fun i g hg => hg) (fun _ h => h) (fun k hk => hb.block k (hm.small k hk)) (fun g hg cs t h => ⟨cs, by rw [hb.block g (hm.there g hg)]; exact h, rfl⟩) l u h
/-- What a step of the memory may do with what is told of it. -/
theorem BoxR_congr {μ' : List Nat} {ok' : Nat → Prop} {g : Nat} (hRL : ∀ l u, RL μ ok w l u → RL μ' ok' w' l u) (hg : w'.heap[g]? = w.heap[g]?) (b : B) (h : BoxR μ ok w g b) : BoxR μ' ok' w' g b := by
  cases b with
  | var ls t =>
    obtain ⟨cs, h1, h2⟩ := h
    exact ⟨cs, by rw [hg]; exact h1, h2.mono hRL⟩
  | arr es sz t =>
    obtain ⟨cs, cap, h1, h2, h3, h4, h5⟩ := h
    refine ⟨cs, cap, by rw [hg]; exact h1, h2, h3, h4, fun i e he => ⟨(h5 i e he).1, fun j x hx => ?_⟩⟩
    obtain ⟨v, h6, h7⟩ := (h5 i e he).2 j x hx
    exact ⟨v, h6, hRL _ _ h7⟩
  | iter s p => show w'.heap[g]? = _; rw [hg]; exact h
  | hid => trivial
theorem RC_below (hm : Mem μ ok bx w) (hb : Below w.heap.size w w') {x : C} {u : Value} (h : RC ok w x u) : RC ok w' x u :=
  RC.congr (fun _ h => h) (fun k hk => hb.block k (hm.small k hk)) x u h
theorem Mem_below (hm : Mem μ ok bx w) (hb : Below w.heap.size w w') : Mem μ ok bx w' where
  len := hm.len
  nd := hm.nd
  live := hm.live
  there := fun g hg => Nat.lt_of_lt_of_le (hm.there g hg) hb.size
  small := fun k hk => Nat.lt_of_lt_of_le (hm.small k hk) hb.size
  box := fun i b g h1 h2 => BoxR_congr (fun l u h => RL_below hm hb h) (hb.block g (hm.there g (List.mem_of_getElem? h2))) b (hm.box i b g h1 h2)
  gl := hm.gl.keep (fun _ h => h) (fun k hk => hb.block k (hm.small k hk))
theorem at_snoc {α : Type} {l : List α} {x y : α} {i : Nat} (h : (l ++ [x])[i]? = some y) : l[i]? = some y ∨ (i = l.length ∧ y = x) := by
  by_cases hi : i < l.length
  · rw [List.getElem?_append_left hi] at h; exact .inl h
  · rw [List.getElem?_append_right (by omega)] at h
    cases hq : i - l.length with
    | zero => rw [hq] at h; exact .inr ⟨by omega, by simpa using h.symm⟩
    | succ n => rw [hq] at h; simp at h
theorem at_in {α : Type} {l : List α} {i : Nat} {x : α} (h : l[i]? = some x) : i < l.length := (List.getElem?_eq_some_iff.1 h).1
/-- One block more: no box that is not hidden stands for it yet. -/
theorem Mem_add (hm : Mem μ ok bx w) {g : Nat} {b : B} (hg : ∀ (i : Nat) b', bx[i]? = some b' → b' ≠ .hid → μ[i]? ≠ some g) (hk : ¬ ok g) (hs : g < w.heap.size) (hb : BoxR (μ ++ [g]) ok w g b) : Mem (μ ++ [g]) ok (bx ++ [b]) w where
  len := by simp [hm.len]
  nd := by
    intro i j b1 b2 g' h1 h2 hn1 hn2 h3 h4
    have hl := hm.len
    rcases at_snoc h1 with h1 | ⟨h1, _⟩ <;> rcases at_snoc h2 with h2 | ⟨h2, _⟩ <;> rcases at_snoc h3 with h3 | ⟨h3, e3⟩ <;> rcases at_snoc h4 with h4 | ⟨h4, e4⟩
    all_goals first
      | exact hm.nd i j b1 b2 g' h1 h2 hn1 hn2 h3 h4
      | (rw [e4] at h3; exact absurd h3 (hg i b1 h1 hn1))
      | (rw [e3] at h4; exact absurd h4 (hg j b2 h2 hn2))
      | (have := at_in h1; omega)
      | (have := at_in h2; omega)
      | (have := at_in h3; omega)
      | (have := at_in h4; omega)
      | omega
  live := by
    intro i b' g' h1 h2 hne
    have hl := hm.len
    rcases at_snoc h1 with h1 | ⟨h1, _⟩ <;> rcases at_snoc h2 with h2 | ⟨h2, e2⟩
    · exact hm.live i b' g' h1 h2 hne
    · have := at_in h1; omega
    · have := at_in h2; omega
    · subst e2; exact hk
  there := by
    intro g' hg'
    rcases List.mem_append.1 hg' with h | h
    · exact hm.there g' h
    · rw [List.mem_singleton] at h; subst h; exact hs
  small := hm.small
  box := by
    intro i b' g' h1 h2
    have hl := hm.len
    rcases at_snoc h1 with h1 | ⟨h1, e1⟩ <;> rcases at_snoc h2 with h2 | ⟨h2, e2⟩
    · exact BoxR_congr (fun l u h => RL_weak _ h) rfl b' (hm.box i b' g' h1 h2)
    · have := at_in h1; omega
    · have := at_in h2; omega
    · subst e1 e2; exact hb
  gl := hm.gl
/-- A box told anew, its block turned, or not. -/
theorem Mem_set (hm : Mem μ ok bx w) {i : Nat} {b0 b : B} {g : Nat} (h0 : bx[i]? = some b0) (hn : b0 ≠ .hid) (hg : μ[i]? = some g)
    (hkeep : ∀ cs t, w.heap[g]? = some (.cells cs t (0, 0)) → ∃ cs', w'.heap[g]? = some (.cells cs' t (0, 0)) ∧ cs'.size = cs.size) (hw : ∀ k, k ≠ g → w'.heap[k]? = w.heap[k]?) (hsize : w'.heap.size = w.heap.size)
    (hb : (∀ l u, RL μ ok w l u → RL μ ok w' l u) → BoxR μ ok w' g b) : Mem μ ok (bx.set i b) w' ∧ (∀ l u, RL μ ok w l u → RL μ ok w' l u) := by
  have hgk : ∀ k, ok k → k ≠ g := fun k hk e => by subst e; exact hm.live i b0 k h0 hg hn hk
  have hRL : ∀ l u, RL μ ok w l u → RL μ ok w' l u := RL.congr (fun i g hg => hg) (fun _ h => h) (fun k hk => hw k (hgk k hk)) (fun g' hg' cs2 t2 h2 => by
    by_cases e : g' = g
    · subst e
      exact hkeep _ _ h2
    · exact ⟨cs2, by rw [hw g' e]; exact h2, rfl⟩)
  have hset : ∀ (j : Nat) b', (bx.set i b)[j]? = some b' → b' ≠ .hid → ∃ b'', bx[j]? = some b'' ∧ b'' ≠ .hid := by
    intro j b' h1 hne
    rw [List.getElem?_set] at h1
    split at h1
    · rename_i e; subst e; exact ⟨b0, h0, hn⟩
    · exact ⟨b', h1, hne⟩
  refine ⟨⟨by simp [hm.len], ?_, ?_, fun g' hg' => by rw [hsize]; exact hm.there g' hg', fun k hk => by rw [hsize]; exact hm.small k hk, ?_, hm.gl.keep (fun _ h => h) (fun k hk => hw k (hgk k hk))⟩, hRL⟩
  · intro p q b1 b2 g' h1 h2 hn1 hn2 h3 h4
    obtain ⟨c1, h5, h6⟩ := hset p b1 h1 hn1
    obtain ⟨c2, h7, h8⟩ := hset q b2 h2 hn2
    exact hm.nd p q c1 c2 g' h5 h7 h6 h8 h3 h4
  · intro j b' g' h1 h2 hne
    obtain ⟨c1, h5, h6⟩ := hset j b' h1 hne
    exact hm.live j c1 g' h5 h2 h6
  · intro j b' g' h1 h2
    rw [List.getElem?_set] at h1
    split at h1
    · rename_i e
      subst e
      rw [hg] at h2
      obtain rfl : g = g' := by simpa using h2
      split at h1
      · obtain rfl : b = b' := by simpa using h1
        exact hb hRL
      · cases h1
    · rename_i hne
      by_cases hh : b' = .hid
      · subst hh; trivial
      have hgg : g' ≠ g := by
        intro e
        subst e
        exact hne (hm.nd i j b0 b' g' h0 h1 hn hh hg h2)
      exact BoxR_congr hRL (hw g' hgg) b' (hm.box j b' g' h1 h2)
/-- A box that is hidden. -/
theorem Mem_hide (hm : Mem μ ok bx w) (i : Nat) : Mem μ ok (bx.set i .hid) w := by
  have hset : ∀ (j : Nat) b', (bx.set i .hid)[j]? = some b' → b' ≠ .hid → bx[j]? = some b' := by
    intro j b' h1 hne
    rw [List.getElem?_set] at h1
    split at h1
    · split at h1
      · obtain rfl : B.hid = b' := by simpa using h1
        exact absurd rfl hne
      · cases h1
    · exact h1
  refine ⟨by simp [hm.len], fun p q b1 b2 g' h1 h2 hn1 hn2 h3 h4 => hm.nd p q b1 b2 g' (hset _ _ h1 hn1) (hset _ _ h2 hn2) hn1 hn2 h3 h4, fun j b' g' h1 h2 hne => hm.live j b' g' (hset _ _ h1 hne) h2 hne, hm.there, hm.small, fun j b' g' h1 h2 => ?_, hm.gl⟩
  by_cases hh : b' = .hid
  · subst hh; trivial
  · exact hm.box j b' g' (hset _ _ h1 hh) h2
/-- The whole relation: what is told of the call's memory, and that it turns none but its own, and what was lent to it (μ0). -/
structure Out (ok0 : Nat → Prop) (μ0 : List Nat) (w0 : World) (ν : List Nat) (ok : Nat → Prop) (w : World) : Prop where
  fw : Fw μ0 w0 w
  ok1 : ∀ k, ok0 k → ok k
  ok2 : ∀ k, ok k → ok0 k ∨ w0.heap.size ≤ k ∨ k ∈ μ0
  new : ∀ g, g ∈ ν → w0.heap.size ≤ g ∨ g ∈ μ0
def RelX (ok0 : Nat → Prop) (μ0 : List Nat) (w0 : World) (ν : List Nat) (σ : St) (a : Act) (w : World) : Prop :=
  ∃ ok, σ.m = μ0.length ∧ Rl (μ0 ++ ν) ok σ a w ∧ Out ok0 μ0 w0 ν ok w
def Rel (ok0 : Nat → Prop) (μ0 : List Nat) (w0 : World) (σ : St) (a : Act) (w : World) : Prop := ∃ ν, RelX ok0 μ0 w0 ν σ a w
def RelA (ok0 : Nat → Prop) (μ0 : List Nat) (w0 : World) (ν : List Nat) (σ : St) (a : Act) (w : World) (r : A) (v : Value) : Prop :=
  ∃ ν2 ok, σ.m = μ0.length ∧ Rl (μ0 ++ (ν ++ ν2)) ok σ a w ∧ Out ok0 μ0 w0 (ν ++ ν2) ok w ∧ RA (RL (μ0 ++ (ν ++ ν2)) ok w) r v
theorem Out.step {ok0 : Nat → Prop} {μ0 ν : List Nat} {w0 w w' : World} {ok : Nat → Prop} (h : Out ok0 μ0 w0 ν ok w) (k : Fw (μ0 ++ ν) w w') : Out ok0 μ0 w0 ν ok w' :=
  ⟨h.fw.step k (fun g hg => by
    rcases List.mem_append.1 hg with hg | hg
    · exact .inl hg
    · exact (h.new g hg).symm), h.ok1, h.ok2, h.new⟩
theorem Out.below {ok0 : Nat → Prop} {μ0 ν : List Nat} {w0 w w' : World} {ok : Nat → Prop} (h : Out ok0 μ0 w0 ν ok w) (k : Below w.heap.size w w') : Out ok0 μ0 w0 ν ok w' := h.step (Fw.of _ k)
theorem Out.add {ok0 : Nat → Prop} {μ0 ν : List Nat} {w0 w : World} {ok : Nat → Prop} (h : Out ok0 μ0 w0 ν ok w) {g : Nat} (hg : w0.heap.size ≤ g ∨ g ∈ μ0) : Out ok0 μ0 w0 (ν ++ [g]) ok w :=
  ⟨h.fw, h.ok1, h.ok2, fun x hx => by
    rcases List.mem_append.1 hx with hx | hx
    · exact h.new x hx
    · rw [List.mem_singleton] at hx; subst hx; exact hg⟩
theorem lk_put {tm : List (Nat × A)} {d t : Nat} {a : A} : lk ((d, a) :: tm) t = if d = t then a else lk tm t := rfl
theorem Rl.put {σ : St} {a : Act} (h : Rl μ ok σ a w) (d : Option Nat) {r : A} {v : Value} (hr : RA (RL μ ok w) r v) : Rl μ ok (σ.putO d r) (a.put d v) w := by
  cases d with
  | none => exact h
  | some d =>
    by_cases hlt : d < σ.nt
    · have e : σ.putO (some d) r = { σ with tm := (d, r) :: σ.tm } := if_pos hlt
      rw [e]
      refine ⟨h.mem, by simp [Act.put, h.nt], fun t => ?_, h.df⟩
      simp only [lk_put, Act.put, Array.getD_eq_getD_getElem?]
      by_cases e : d = t
      · subst e
        rw [if_pos rfl, Array.getElem?_setIfInBounds_self_of_lt (by rw [h.nt]; exact hlt)]
        exact hr
      · rw [if_neg e, Array.getElem?_setIfInBounds_ne e]
        have := h.tm t
        rwa [Array.getD_eq_getD_getElem?] at this
    · have e : σ.putO (some d) r = σ := if_neg hlt
      rw [e]
      have : a.tmps.setIfInBounds d v = a.tmps := by
        unfold Array.setIfInBounds
        rw [dif_neg (by rw [h.nt]; exact hlt)]
      refine ⟨h.mem, by simp [Act.put, h.nt], fun t => ?_, h.df⟩
      simp only [Act.put, this]
      exact h.tm t
theorem putO_m (σ : St) (d : Option Nat) (r : A) : (σ.putO d r).m = σ.m := by
  cases d with
  | none => rfl
  | some d => show (if _ then _ else _ : St).m = _; split <;> rfl
theorem RelA.put {ok0 : Nat → Prop} {μ0 ν : List Nat} {w0 : World} {σ : St} {a : Act} {r : A} {v : Value} (h : RelA ok0 μ0 w0 ν σ a w r v) (d : Option Nat) : ∃ ν2, RelX ok0 μ0 w0 (ν ++ ν2) (σ.putO d r) (a.put d v) w := by
  obtain ⟨ν2, ok, h0, h1, h3, h2⟩ := h
  exact ⟨ν2, ok, by rw [putO_m]; exact h0, h1.put d h2, h3⟩
end
--ALSO Derived.Lib.OthersKept
section
variable {P : Program} {T : Ty} {ok0 : Nat → Prop} {μ0 ν : List Nat} {w0 : World}
theorem wp_value {o : Oper} {a : Act} {w w' : World} {v : Value} {K : Act → World → Prop} {Q : Exit → Act → World → Prop} (h : (execOp a.eval o).run P w = .ok (.value v) w') (hk : K (a.put o.dst v) w') : o.wp P a w K Q := by
  unfold Oper.wp
  rw [h, Oper.upon_value]
  exact hk
theorem wp_skip_ {o : Oper} {a : Act} {w w' : World} {K : Act → World → Prop} {Q : Exit → Act → World → Prop} (h : (execOp a.eval o).run P w = .ok .skip w') (hk : K (a.put o.dst undef) w') : o.wp P a w K Q := by
  unfold Oper.wp
  rw [h, Oper.upon_skip]
  exact hk
theorem Rl.new {μ : List Nat} {ok : Nat → Prop} {σ : St} {a : Act} {w w' : World} (h : Rl μ ok σ a w) (hB : Below w.heap.size w w') (hs : w.heap.size < w'.heap.size) (b : B)
    (hb : (∀ l u, RL μ ok w l u → RL (μ ++ [w.heap.size]) ok w' l u) → BoxR (μ ++ [w.heap.size]) ok w' w.heap.size b) :
    Rl (μ ++ [w.heap.size]) ok { σ with bx := σ.bx ++ [b] } a w' ∧ (μ ++ [w.heap.size])[σ.bx.length]? = some w.heap.size := by
  have hm := Mem_below h.mem hB
  have hRL : ∀ l u, RL μ ok w l u → RL (μ ++ [w.heap.size]) ok w' l u := fun l u hl => RL_weak _ (RL_below h.mem hB hl)
  refine ⟨⟨Mem_add hm (fun i b' h1 h2 h3 => Nat.lt_irrefl _ (h.mem.there _ (List.mem_of_getElem? h3))) (fun hk => Nat.lt_irrefl _ (h.mem.small _ hk)) hs (hb hRL), h.nt, fun t => RA_mono hRL _ _ (h.tm t), h.df⟩, ?_⟩
  rw [List.getElem?_append_right (by rw [h.mem.len]; exact Nat.le_refl _), h.mem.len]
  simp
theorem RelX.new {σ : St} {a : Act} {w w' : World} (h : RelX ok0 μ0 w0 ν σ a w) (hB : Below w.heap.size w w') (hs : w.heap.size < w'.heap.size) (b : B) (r : A) (v : Value)
    (hb : ∀ μ ok, Rl μ ok σ a w → (∀ l u, RL μ ok w l u → RL (μ ++ [w.heap.size]) ok w' l u) →
      BoxR (μ ++ [w.heap.size]) ok w' w.heap.size b ∧ ((μ ++ [w.heap.size])[σ.bx.length]? = some w.heap.size → RA (RL (μ ++ [w.heap.size]) ok w') r v)) :
    RelA ok0 μ0 w0 ν { σ with bx := σ.bx ++ [b] } a w' r v := by
  obtain ⟨ok, h0, h1, h2⟩ := h
  have hRL : ∀ l u, RL (μ0 ++ ν) ok w l u → RL ((μ0 ++ ν) ++ [w.heap.size]) ok w' l u := fun l u hl => RL_weak _ (RL_below h1.mem hB hl)
  obtain ⟨h6, h7⟩ := h1.new hB hs b (fun x => (hb _ ok h1 x).1)
  rw [List.append_assoc] at h6
  refine ⟨[w.heap.size], ok, h0, h6, (h2.below hB).add (.inl h2.fw.size), ?_⟩
  have := (hb _ ok h1 hRL).2 h7
  rwa [List.append_assoc] at this
theorem below_alloc (w : World) (o : Obj) : Below w.heap.size w (w.alloc o) := (Below.refl _ _).alloc (Nat.le_refl _) _
theorem RelX.alloc {σ : St} {a : Act} {w : World} (h : RelX ok0 μ0 w0 ν σ a w) (o : Obj) (b : B) (r : A) (v : Value)
    (hb : ∀ μ ok, Rl μ ok σ a w → (∀ l u, RL μ ok w l u → RL (μ ++ [w.heap.size]) ok (w.alloc o) l u) →
      BoxR (μ ++ [w.heap.size]) ok (w.alloc o) w.heap.size b ∧ ((μ ++ [w.heap.size])[σ.bx.length]? = some w.heap.size → RA (RL (μ ++ [w.heap.size]) ok (w.alloc o)) r v)) :
    RelA ok0 μ0 w0 ν { σ with bx := σ.bx ++ [b] } a (w.alloc o) r v := h.new (below_alloc w o) (by simp [World.size_alloc]) b r v hb
theorem ev_strip {μ : List Nat} {ok : Nat → Prop} {σ : St} {a : Act} {w : World} (h : Rl μ ok σ a w) (x : Operand) (hs : (strip (σ.ev x)).1 = true) : RA (RL μ ok w) (strip (σ.ev x)).2 (a.eval x) := RA_strip _ _ (ev_ok h x) hs
theorem alloc_ok (hT : ∀ t i, T t = some i → TyOK P t i) {σ : St} {a : Act} {w : World} {t : TypeId} (hk : T.known t = true) (h : RelX ok0 μ0 w0 ν σ a w) :
    ∃ v w', (Instr.alloc t true (.tuple #[])).run P w = .ok v w' ∧ RelA ok0 μ0 w0 ν { σ with bx := σ.bx ++ [.var (zeroL T t) t] } a w' (.one (.ptr σ.bx.length 0)) v ∧ Below w.heap.size w w' := by
  obtain ⟨i, hi, _⟩ := known_some hk
  obtain ⟨z, hz, hzl⟩ := run_zero (w := w) (hT _ _ hi)
  refine ⟨.pointer (some ⟨w.heap.size, 0, none⟩), w.alloc (.cells z.cells t), ?_, ?_, (Below.refl _ _).alloc (Nat.le_refl _) _⟩
  · simp [Instr.alloc, hz, newVar, newRow]
  · refine h.alloc (.cells z.cells t) _ _ _ (fun μ ok _ _ => ⟨⟨z.cells, heap_alloc_new w _, ?_⟩, fun hid => ⟨_, hid, rfl⟩⟩)
    unfold zeroL
    rw [hi]
    simp only
    rw [← hzl]
    exact RLs.vals _
theorem box_ok {σ : St} {a : Act} {w : World} {t : TypeId} {x : Operand} (hs : (strip (σ.ev x)).1 = true) (hw : whole (strip (σ.ev x)).2 = true) (h : RelX ok0 μ0 w0 ν σ a w) :
    ∃ v w', (Instr.box t (a.eval x)).run P w = .ok v w' ∧ RelA ok0 μ0 w0 ν { σ with bx := σ.bx ++ [.var (leaves (strip (σ.ev x)).2) t] } a w' (.one (.ptr σ.bx.length 0)) v ∧ Below w.heap.size w w' := by
  refine ⟨.pointer (some ⟨w.heap.size, 0, none⟩), w.alloc (.cells (a.eval x).cells t), by simp [Instr.box, newVar, newRow], ?_, (Below.refl _ _).alloc (Nat.le_refl _) _⟩
  refine h.alloc (.cells (a.eval x).cells t) _ _ _ (fun μ ok hR hRL => ⟨⟨(a.eval x).cells, heap_alloc_new w _, ?_⟩, fun hid => ⟨_, hid, rfl⟩⟩)
  exact (leaves_ok (ev_strip hR x hs) hw).mono hRL
theorem setRow_size (w : World) (g : Nat) (cs : Array Value) : (w.setRow g cs).heap.size = w.heap.size := by simp [World.setRow]
theorem at_in' {w : World} {g : Nat} {o : Obj} (h : w.heap[g]? = some o) : g < w.heap.size := (Array.getElem?_eq_some_iff.1 h).1
theorem Fw.setRow {w : World} {μ : List Nat} {g : Nat} (hg : g ∈ μ) {cs cs' : Array Value} {t : TypeId} (hc : w.heap[g]? = some (.cells cs t (0, 0))) (hs : cs'.size = cs.size) : Fw μ w (w.setRow g cs') :=
  ⟨rfl, rfl, rfl, by rw [setRow_size]; exact Nat.le_refl _, fun k _ hk => setRow_other w g k cs' (fun e => hk (e ▸ hg)), fun k _ ds t' hd => by
    by_cases e : k = g
    · subst e
      rw [hc] at hd
      simp only [Option.some.injEq, Obj.cells.injEq] at hd
      obtain ⟨rfl, rfl, _⟩ := hd
      exact ⟨cs', setRow_heap w k cs cs' t (0, 0) hc, hs⟩
    · exact ⟨ds, by rw [setRow_other w g k cs' e]; exact hd, rfl⟩⟩
/-- A block turned in place. -/
theorem RelX.turn {σ : St} {a : Act} {w w' : World} (h : RelX ok0 μ0 w0 ν σ a w) {i : Nat} {b0 b : B} (h0 : σ.bx[i]? = some b0) (hn : b0 ≠ .hid) {g : Nat} (hF : Fw [g] w w') (hw : ∀ k, k ≠ g → w'.heap[k]? = w.heap[k]?) (hsize : w'.heap.size = w.heap.size)
    (hgs : g < w.heap.size) (hg : ∀ μ ok, Rl μ ok σ a w → μ[i]? = some g) (r : A) (v : Value) (hb : ∀ μ ok, Rl μ ok σ a w → (∀ l u, RL μ ok w l u → RL μ ok w' l u) → BoxR μ ok w' g b ∧ RA (RL μ ok w') r v) :
    RelA ok0 μ0 w0 ν { σ with bx := σ.bx.set i b } a w' r v := by
  obtain ⟨ok, h1, hR, hO⟩ := h
  have hgi := hg _ _ hR
  have hgk : ∀ k, ok k → k ≠ g := fun k hk e => by subst e; exact hR.mem.live i b0 k h0 hgi hn hk
  obtain ⟨h2, h3⟩ := Mem_set (w' := w') hR.mem h0 hn hgi (fun ds t' hd => hF.kept g hgs ds t' hd) hw hsize (fun hRL => (hb _ _ hR hRL).1)
  refine ⟨[], ok, h1, ?_, ?_, ?_⟩
  · rw [List.append_nil]; exact ⟨h2, hR.nt, fun t => RA_mono h3 _ _ (hR.tm t), hR.df⟩
  · rw [List.append_nil]
    refine hO.step ⟨hF.os, hF.tape, hF.output, hF.size, fun k hk hm => hF.block k hk (fun e => hm ?_), hF.kept⟩
    rw [List.mem_singleton] at e
    subst e
    exact List.mem_of_getElem? hgi
  · rw [List.append_nil]; exact (hb _ _ hR h3).2
/-- A row of cells turned in place. -/
theorem RelX.row {σ : St} {a : Act} {w : World} (h : RelX ok0 μ0 w0 ν σ a w) {i : Nat} {b0 b : B} {cs' : Array Value} (h0 : σ.bx[i]? = some b0) (hn : b0 ≠ .hid)
    {g : Nat} {cs : Array Value} {t : TypeId} (hc : w.heap[g]? = some (.cells cs t (0, 0))) (hsz : cs'.size = cs.size)
    (hg : ∀ μ ok, Rl μ ok σ a w → μ[i]? = some g) (hb : ∀ μ ok, Rl μ ok σ a w → (∀ l u, RL μ ok w l u → RL μ ok (w.setRow g cs') l u) → BoxR μ ok (w.setRow g cs') g b) :
    RelA ok0 μ0 w0 ν { σ with bx := σ.bx.set i b } a (w.setRow g cs') .junk undef :=
  h.turn h0 hn (Fw.setRow (List.mem_singleton.2 rfl) hc hsz) (fun k hk => setRow_other w g k cs' hk) (setRow_size _ _ _) (at_in' hc) hg .junk undef (fun μ ok hR hRL => ⟨hb μ ok hR hRL, trivial⟩)
theorem storeVar_ok {t : TypeId} {i : TI} (h : TyOK P t i) {w : World} {g off : Nat} {cs : Array Value} {t' : TypeId} (hg : w.heap[g]? = some (.cells cs t' (0, 0))) (v : Value) (hv : v.cells.size = i.size) (hl : off + i.size ≤ cs.size) (h1 : ∀ u, u ∈ v.cells.toList → u.oneCell' = true) :
    (storeVar t ⟨g, off, none⟩ v).run P w = .ok () (w.setRow g (cs.toList.take off ++ v.cells.toList ++ cs.toList.drop (off + v.cells.size)).toArray) := by
  have hlen : v.cells.toList.length = v.cells.size := Array.length_toList
  have := run_storeCells_at P g off t' v.cells.toList 0 cs w hg (by omega) h1
  simp only [Nat.add_zero] at this
  rw [hlen] at this
  rw [hv] at this ⊢
  simp [storeVar, run_size h, hv, this]
theorem lcells_one {μ : List Nat} {ok : Nat → Prop} {w : World} {ls : List L} {cs : List Value} (h : RLs (RL μ ok w) ls cs) (hl : ls.all lcell = true) : ∀ u, u ∈ cs → u.oneCell' = true := by
  intro u hu
  obtain ⟨j, hj⟩ := List.getElem?_of_mem hu
  have hlt : j < ls.length := by rw [h.1]; exact (List.getElem?_eq_some_iff.1 hj).1
  obtain ⟨v, h1, h2⟩ := h.2 j _ (List.getElem?_eq_getElem hlt)
  rw [hj] at h1
  obtain rfl : u = v := by simpa using h1
  exact lcell_one h2 (List.all_eq_true.1 hl _ (List.getElem_mem hlt))
theorem store_ok (hT : ∀ t i, T t = some i → TyOK P t i) {σ : St} {a : Act} {w : World} {t : TypeId} {x y : Operand} {k : A → St → Prop} (h : RelX ok0 μ0 w0 ν σ a w) (he : eStore T σ t (strip (σ.ev x)) (strip (σ.ev y)) k) :
    ∃ σ' w', (Instr.storeAt t (a.eval x) (a.eval y)).run P w = .ok () w' ∧ RelA ok0 μ0 w0 ν σ' a w' .junk undef ∧ k .junk σ' := by
  obtain ⟨ok, hm, hR, hO⟩ := _root_.id h
  have hx := SR.of (ev_ok hR x)
  unfold eStore at he
  split at he
  · rename_i g id off heq
    split at he
    · rename_i ls t' hb
      obtain ⟨h1, h2, h3, h4, h5, h6, h7, h8⟩ := he
      rw [heq] at hx
      obtain ⟨gb, hg, hu⟩ := hx h1
      obtain ⟨i, hi, hs⟩ := known_some h4
      obtain ⟨cs, hc, hr⟩ := hR.mem.box id _ gb hb hg
      have hlv := leaves_ok (ev_strip hR y h2) h3
      have hvs : (a.eval y).cells.size = i.size := by
        have h8 := hlv.1
        have h9 : (a.eval y).cells.toList.length = (a.eval y).cells.size := Array.length_toList
        omega
      have hcs : cs.toList.length = cs.size := Array.length_toList
      have hll := hr.1
      have hst := storeVar_ok (P := P) (off := off) (hT _ _ hi) hc (a.eval y) hvs (by omega) (lcells_one hlv h6)
      have hsz : (cs.toList.take off ++ (a.eval y).cells.toList ++ cs.toList.drop (off + (a.eval y).cells.size)).toArray.size = cs.size := by
        simp only [List.size_toArray, List.length_append, List.length_take, List.length_drop, Array.length_toList]
        omega
      refine ⟨_, w.setRow gb (cs.toList.take off ++ (a.eval y).cells.toList ++ cs.toList.drop (off + (a.eval y).cells.size)).toArray, ?_, h.row (b := .var (setLs ls off (leaves (strip (σ.ev y)).2)) t') hb (by simp) hc hsz (fun μ ok2 hR2 => ?_) (fun μ ok2 hR2 hRL => ⟨_, setRow_heap w gb cs _ t' (0, 0) hc, ?_⟩), h8⟩
      · rw [hu]
        simp only [Instr.storeAt, Instr.sureAddr, Sem.run_bind, Sem.run_pure, Result.andThen_ok, hst]
      · have hx2 := SR.of (ev_ok hR2 x)
        rw [heq] at hx2
        obtain ⟨gb2, hg2, hu2⟩ := hx2 h1
        rw [hu] at hu2
        obtain rfl : gb = gb2 := by simpa using hu2
        exact hg2
      · have hx2 := SR.of (ev_ok hR2 x)
        rw [heq] at hx2
        obtain ⟨gb2, hg2, hu2⟩ := hx2 h1
        rw [hu] at hu2
        obtain rfl : gb = gb2 := by simpa using hu2
        obtain ⟨cs2, hc2, hr2⟩ := hR2.mem.box id _ gb hb hg2
        rw [hc] at hc2
        simp only [Option.some.injEq, Obj.cells.injEq] at hc2
        obtain ⟨rfl, _⟩ := hc2
        have hlv2 := leaves_ok (ev_strip hR2 y h2) h3
        have hsl : (leaves (strip (σ.ev y)).2).length = (a.eval y).cells.size := by omega
        unfold setLs
        rw [hsl]
        exact (RLs.append (RLs.append (hr2.take off) hlv2) (hr2.drop _)).mono hRL
    · exact he.elim
  · rename_i g id sz k' off heq
    split at he
    · rename_i es sz' t' hb
      obtain ⟨h1, h2, h3, h4, h5, h6, h7, h9, h10, h8⟩ := he
      subst h7
      rw [heq] at hx
      obtain ⟨gb, hg, hu⟩ := hx h1
      obtain ⟨i, hi, hs⟩ := known_some h4
      obtain ⟨cs, cap, hc, hsz, hcap, hmx, hel⟩ := hR.mem.box id _ gb hb hg
      have hlv := leaves_ok (ev_strip hR y h2) h3
      have hvs : (a.eval y).cells.size = i.size := by
        have h8 := hlv.1
        have h9 : (a.eval y).cells.toList.length = (a.eval y).cells.size := Array.length_toList
        omega
      have hfit : k' * sz + off + i.size ≤ cs.size := by
        have : (k' + 1) * sz ≤ cap * sz := Nat.mul_le_mul_right _ (by omega)
        rw [Nat.add_mul] at this
        omega
      have hst := storeVar_ok (P := P) (off := k' * sz + off) (hT _ _ hi) hc (a.eval y) hvs hfit (lcells_one hlv h6)
      have hlen : (leaves (strip (σ.ev y)).2).length = i.size := by omega
      have hcl : cs.toList.length = cs.size := Array.length_toList
      have hvl : (a.eval y).cells.toList.length = (a.eval y).cells.size := Array.length_toList
      have htk : (cs.toList.take (k' * sz + off)).length = k' * sz + off := by rw [List.length_take]; omega
      have hsz2 : (cs.toList.take (k' * sz + off) ++ (a.eval y).cells.toList ++ cs.toList.drop (k' * sz + off + (a.eval y).cells.size)).toArray.size = cs.size := by
        simp only [List.size_toArray, List.length_append, List.length_take, List.length_drop, Array.length_toList]
        omega
      have same : ∀ μ ok2, Rl μ ok2 σ a w → μ[id]? = some gb := by
        intro μ ok2 hR2
        have hx2 := SR.of (ev_ok hR2 x)
        rw [heq] at hx2
        obtain ⟨gb2, hg2, hu2⟩ := hx2 h1
        rw [hu] at hu2
        obtain rfl : gb = gb2 := by simpa using hu2
        exact hg2
      refine ⟨_, w.setRow gb (cs.toList.take (k' * sz + off) ++ (a.eval y).cells.toList ++ cs.toList.drop (k' * sz + off + (a.eval y).cells.size)).toArray, ?_, h.row (b := .arr (es.set k' (setLs (es.getD k' []) off (leaves (strip (σ.ev y)).2))) sz t') hb (by simp) hc hsz2 same
        (fun μ ok2 hR2 hRL => ⟨_, cap, setRow_heap w gb cs _ t' (0, 0) hc, by rw [hsz2]; exact hsz, by simpa using hcap, hmx, ?_⟩), h8⟩
      · rw [hu]
        simp only [Instr.storeAt, Instr.sureAddr, Sem.run_bind, Sem.run_pure, Result.andThen_ok, hst]
      · intro q e hq
        obtain ⟨cs2, cap2, hc2, hsz3, hcap2, hmx2, hel2⟩ := hR2.mem.box id _ gb hb (same μ ok2 hR2)
        rw [hc] at hc2
        simp only [Option.some.injEq, Obj.cells.injEq] at hc2
        obtain ⟨rfl, _⟩ := hc2
        have hlv := leaves_ok (ev_strip hR2 y h2) h3
        have he0 : es[k']? = some (es.getD k' []) := by rw [List.getD_eq_getElem?_getD, List.getElem?_eq_getElem h9]; rfl
        obtain ⟨hel3, hel4⟩ := hel2 k' _ he0
        rw [List.getElem?_set] at hq
        split at hq
        · rename_i e1
          subst e1
          obtain rfl := Option.some.inj hq
          have hta : ((es.getD k' []).take off).length = off := by rw [List.length_take]; omega
          unfold setLs
          refine ⟨by simp only [List.length_append, List.length_take, List.length_drop]; omega, fun j x hj => ?_⟩
          rw [List.getElem?_append, List.getElem?_append] at hj
          simp only [List.length_append, hta] at hj
          have hget : ((cs.toList.take (k' * sz + off) ++ (a.eval y).cells.toList ++ cs.toList.drop (k' * sz + off + (a.eval y).cells.size)).toArray)[k' * sz + j]? =
              if j < off then cs[k' * sz + j]? else if j < off + i.size then (a.eval y).cells.toList[j - off]? else cs[k' * sz + j]? := by
            rw [List.getElem?_toArray, List.getElem?_append, List.getElem?_append]
            simp only [List.length_append, htk]
            split
            · split
              · rename_i h11 h12
                rw [if_pos (by omega), List.getElem?_take, if_pos (by omega)]
                simp
              · rename_i h11 h12
                rw [if_neg (by omega), if_pos (by omega)]
                congr 1
                omega
            · rename_i h11
              rw [if_neg (by omega), if_neg (by omega), List.getElem?_drop]
              have e5 : k' * sz + off + (a.eval y).cells.size + (k' * sz + j - (k' * sz + off + (a.eval y).cells.toList.length)) = k' * sz + j := by omega
              rw [e5]
              simp
          rw [hget]
          split at hj
          · split at hj
            · rename_i h11 h12
              rw [if_pos h12]
              rw [List.getElem?_take, if_pos h12] at hj
              obtain ⟨v, hv, hr⟩ := hel4 j x hj
              exact ⟨v, hv, hRL _ _ hr⟩
            · rename_i h11 h12
              rw [if_neg h12, if_pos (by omega)]
              obtain ⟨v, hv, hr⟩ := hlv.2 (j - off) x hj
              exact ⟨v, hv, hRL _ _ hr⟩
          · rename_i h11
            rw [if_neg (by omega), if_neg (by omega)]
            rw [List.getElem?_drop] at hj
            have e5 : off + (leaves (strip (σ.ev y)).2).length + (j - (off + (leaves (strip (σ.ev y)).2).length)) = j := by omega
            rw [e5] at hj
            obtain ⟨v, hv, hr⟩ := hel4 j x hj
            exact ⟨v, hv, hRL _ _ hr⟩
        · rename_i e1
          obtain ⟨h11, h12⟩ := hel2 q e hq
          refine ⟨h11, fun j x hj => ?_⟩
          obtain ⟨v, hv, hr⟩ := h12 j x hj
          refine ⟨v, ?_, hRL _ _ hr⟩
          have hjs : j < sz := by rw [← h11]; exact (List.getElem?_eq_some_iff.1 hj).1
          rw [List.getElem?_toArray, List.getElem?_append, List.getElem?_append]
          simp only [List.length_append, htk]
          rcases Nat.lt_or_gt_of_ne e1 with hlt | hlt
          · have hm : (k' + 1) * sz ≤ q * sz := Nat.mul_le_mul_right _ hlt
            rw [Nat.add_mul] at hm
            rw [if_neg (by omega), List.getElem?_drop]
            have e5 : k' * sz + off + (a.eval y).cells.size + (q * sz + j - (k' * sz + off + (a.eval y).cells.toList.length)) = q * sz + j := by omega
            rw [e5]
            simpa using hv
          · have hm : (q + 1) * sz ≤ k' * sz := Nat.mul_le_mul_right _ hlt
            rw [Nat.add_mul] at hm
            rw [if_pos (by omega), if_pos (by omega), List.getElem?_take, if_pos (by omega)]
            simpa using hv
    · exact he.elim
  · exact he.elim
/-- The next rune of a text. -/
theorem next_ok {σ : St} {a : Act} {w : World} {x : Operand} {ty : TypeId} {k : A → St → Prop} (h : RelX ok0 μ0 w0 ν σ a w) (he : eNext σ (strip (σ.ev x)) k) :
    ∃ r σ' v w', (Instr.next (a.eval x) true ty).run P w = .ok v w' ∧ RelA ok0 μ0 w0 ν σ' a w' r v ∧ k r σ' := by
  obtain ⟨ok, hm, hR, hO⟩ := _root_.id h
  have hx := SR.of (ev_ok hR x)
  unfold eNext at he
  split at he
  · rename_i g id heq
    split at he
    · rename_i s p hb
      obtain ⟨h1, h2, h3⟩ := he
      rw [heq] at hx
      obtain ⟨gb, hg, hu⟩ := hx h1
      have hbox : w.heap[gb]? = some (.stringIter s p) := hR.mem.box id _ gb hb hg
      by_cases hp : p < s.size
      · have hrun : (Instr.next (a.eval x) true ty).run P w = .ok (.tuple #[.bool true, .int .i64 p, .int .i32 (Utf8.decode s p).1]) (w.iterAt gb s (p + (Utf8.decode s p).2)) := by rw [hu]; exact Lib.run_next_any_at w gb s p ty hbox hp
        refine ⟨_, _, _, _, hrun, ?_, h2 hp⟩
        have hlt := at_in' hbox
        have hat : (w.iterAt gb s (p + (Utf8.decode s p).2)).heap[gb]? = some (.stringIter s (p + (Utf8.decode s p).2)) := by simp [World.iterAt, hlt]
        have hoth : ∀ k, k ≠ gb → (w.iterAt gb s (p + (Utf8.decode s p).2)).heap[k]? = w.heap[k]? := fun k hk => by simp [World.iterAt, Array.getElem?_setIfInBounds, hk.symm]
        refine h.turn (w' := w.iterAt gb s (p + (Utf8.decode s p).2)) hb (by simp) (g := gb) ⟨rfl, rfl, rfl, by simp [World.iterAt], fun k _ hk => hoth k (by simpa using hk), fun k _ cs t hc => ?_⟩ hoth (by simp [World.iterAt]) hlt (fun μ ok2 hR2 => ?_) _ _ (fun μ ok2 hR2 hRL => ⟨hat, _, rfl, rfl, fun j y hj => ?_⟩)
        · by_cases e : k = gb
          · subst e; rw [hbox] at hc; cases hc
          · exact ⟨cs, by rw [hoth k e]; exact hc, rfl⟩
        · have hx2 := SR.of (ev_ok hR2 x)
          rw [heq] at hx2
          obtain ⟨gb2, hg2, hu2⟩ := hx2 h1
          rw [hu] at hu2
          obtain rfl : gb = gb2 := by simpa using hu2
          exact hg2
        · match j, hj with
          | 0, hj => obtain rfl := Option.some.inj hj
                     exact ⟨_, rfl, (fun e => by cases e), (fun _ => ⟨_, rfl, rfl⟩)⟩
          | 1, hj => obtain rfl := Option.some.inj hj
                     exact ⟨_, rfl, (fun e => by cases e), (fun _ => ⟨_, rfl, rfl⟩)⟩
          | 2, hj => obtain rfl := Option.some.inj hj
                     exact ⟨_, rfl, (fun e => by cases e), (fun _ => ⟨_, rfl, rfl⟩)⟩
          | j + 3, hj => simp at hj
      · have hrun : (Instr.next (a.eval x) true ty).run P w = .ok (.tuple #[.bool false]) w := by rw [hu]; exact Lib.run_next_end_at w gb s p ty hbox hp
        refine ⟨_, σ, _, _, hrun, ?_, h3 hp⟩
        refine ⟨[], ok, hm, by rw [List.append_nil]; exact hR, by rw [List.append_nil]; exact hO, _, rfl, rfl, fun j y hj => ?_⟩
        cases j with
        | zero => obtain rfl := Option.some.inj hj
                  exact ⟨_, rfl, (fun e => by cases e), (fun _ => ⟨_, rfl, rfl⟩)⟩
        | succ j => simp at hj
    · exact he.elim
  · exact he.elim
end
section
variable {P : Program} {T : Ty} {ok0 : Nat → Prop} {μ0 ν : List Nat} {w0 : World}
theorem fn_ok {σ : St} {a : Act} {w : World} {μ : List Nat} {ok : Nat → Prop} (h : Rl μ ok σ a w) : ∀ (cs : List Operand) (ids : List Nat),
    cs.mapM (fun c => match strip (σ.ev c) with | (true, .one (.ptr id 0)) => some id | _ => none) = some ids →
    ∃ gs : List Nat, gs.length = ids.length ∧ (∀ (j : Nat) id, ids[j]? = some id → ∃ g, gs[j]? = some g ∧ μ[id]? = some g) ∧ cs.map a.eval = gs.map fun g => Value.pointer (some ⟨g, 0, none⟩)
  | [], ids, hm => by
    simp at hm
    subst hm
    exact ⟨[], rfl, fun j id hj => by simp at hj, rfl⟩
  | c :: cs, ids, hm => by
    simp only [List.mapM_cons] at hm
    split at hm
    · rename_i id heq
      cases hr : cs.mapM (fun c => match strip (σ.ev c) with | (true, .one (.ptr id 0)) => some id | _ => none) with
      | none => rw [hr] at hm; simp at hm
      | some r =>
        rw [hr] at hm
        simp at hm
        subst hm
        obtain ⟨gs, h1, h2, h3⟩ := fn_ok h cs r hr
        have hx := SR.of (ev_ok h c)
        rw [heq] at hx
        obtain ⟨g, hg, hu⟩ := hx rfl
        refine ⟨g :: gs, by simp [h1], fun j id' hj => ?_, by simp [h3, hu]⟩
        cases j with
        | zero =>
          obtain rfl : id = id' := by simpa using hj
          exact ⟨g, rfl, hg⟩
        | succ j => exact h2 j id' hj
    · simp at hm
theorem make_ok (hT : ∀ t i, T t = some i → TyOK P t i) {σ : St} {a : Act} {w : World} {t : TypeId} {x y : Operand} {k : A → St → Prop} (h : RelX ok0 μ0 w0 ν σ a w) (he : eMake T σ t (strip (σ.ev x)) (strip (σ.ev y)) k) :
    ∃ r σ' v w', (Instr.makeSlice t (a.eval x) (a.eval y)).run P w = .ok v w' ∧ RelA ok0 μ0 w0 ν σ' a w' r v ∧ k r σ' ∧ Below w.heap.size w w' := by
  unfold eMake at he
  split at he
  · rename_i e _ _ _ hTs
    split at he
    · rename_i g kl n g' kc m heq1 heq2
      obtain ⟨h1, h2, h3, h4, h5, h6, h7, h8, h9, h10⟩ := he
      have hu := slice_under hT hTs
      obtain ⟨i, hi, hs⟩ := known_some h5
      have hz0 : zeroL T e = i.zero.map fun x => L.c (.v x) := by unfold zeroL; rw [hi]
      have hby : T.bytes e = i.bytes := by unfold Ty.bytes; rw [hi]
      rw [hby] at h8
      rw [hz0, List.length_map] at h9
      obtain ⟨j, z, e1, e2, e3, e4, e5⟩ := (hT _ _ hi).info
      obtain ⟨ok, _, hR, _⟩ := id h
      have hx := SR.of (ev_ok hR x)
      have hy := SR.of (ev_ok hR y)
      rw [heq1] at hx
      rw [heq2] at hy
      have hx : a.eval x = .int kl n := hx h1
      have hy : a.eval y = .int kc m := hy h2
      obtain ⟨nn, rfl⟩ : ∃ nn : Nat, n = (nn : Int) := ⟨n.toNat, by omega⟩
      obtain ⟨mm, rfl⟩ : ∃ mm : Nat, m = (mm : Int) := ⟨m.toNat, by omega⟩
      simp only [Int.toNat_natCast] at h7 h8 h10
      have hmx : (mm : Int) ≤ 9223372036854775807 := by simp only [maxLen] at h7; omega
      have hr := run_make (P := P) w t e j z hu e1 e4 kl kc nn mm (by omega) h4 (by
        have hq : ((i.bytes * mm : Nat) : Int) ≤ 281474976710656 := by omega
        rw [e3]
        rwa [Int.natCast_mul] at hq) hmx
      simp only [Int.toNat_natCast] at hr
      have hle : nn ≤ mm := by omega
      refine ⟨_, _, .slice (some ⟨w.heap.size, 0, none⟩) nn mm, _, by rw [hx, hy]; exact hr, h.alloc (.cells (madeCells z.cells (mm * j.size)) e) (.arr (List.replicate nn (zeroL T e)) (T.size e) e) (.one (.own σ.bx.length (T.size e) 0 nn)) _ (fun μ ok hR hRL => ⟨⟨_, mm, heap_alloc_new w _, by simp [madeCells, e2, hs], by simpa using hle, h7, ?_⟩, fun hid => ⟨w.heap.size, mm, _, e, hid, by rw [Nat.zero_mul], hle, heap_alloc_new w _, by simp [madeCells, e2, hs]⟩⟩), h10, below_alloc _ _⟩
      intro q el hq
      rw [List.getElem?_replicate] at hq
      split at hq
      · rename_i hqn
        obtain rfl := Option.some.inj hq
        rw [hz0]
        refine ⟨by rw [List.length_map, h9], fun jj x hj => ?_⟩
        rw [List.getElem?_map] at hj
        cases hzz : i.zero[jj]? with
        | none => rw [hzz] at hj; simp at hj
        | some u =>
          rw [hzz] at hj
          obtain rfl : L.c (.v u) = x := by simpa using hj
          refine ⟨u, ?_, rfl⟩
          have hjl : jj < i.size := by rw [← hs, ← h9]; exact (List.getElem?_eq_some_iff.1 hzz).1
          have hzs : z.cells.size = i.size := by
            have : z.cells.toList.length = z.cells.size := Array.length_toList
            rw [e5, h9] at this
            omega
          have hlt : q * T.size e + jj < mm * j.size := by
            have : (q + 1) * T.size e ≤ mm * T.size e := Nat.mul_le_mul_right _ (by omega)
            rw [Nat.add_mul] at this
            rw [e2, ← hs]
            omega
          unfold madeCells
          rw [Array.getElem?_map, Array.getElem?_range, if_pos hlt]
          simp only [Option.map_some]
          congr 1
          rw [hzs, hs, Nat.add_comm, Nat.add_mul_mod_self_right, Nat.mod_eq_of_lt hjl]
          have hzl : z.cells.toList[jj]? = some u := by rw [e5]; exact hzz
          have : z.cells[jj]? = some u := by simpa using hzl
          rw [getElem!_def, this]
      · cases hq
    · exact he.elim
  · exact he.elim
theorem fill_lit {size : Nat} : ∀ (vs : List Value) (i0 : Nat) (cs : Array Value), (∀ v, v ∈ vs → v.cells.size = size) → (i0 + vs.length) * size ≤ cs.size →
    ∃ cs', Instr.fill (fun i => some (i * size, size)) cs ((vs.zipIdx i0).map fun p => (p.2, p.1)) = some cs' ∧ cs'.toList = cs.toList.take (i0 * size) ++ vs.flatMap (fun v => v.cells.toList) ++ cs.toList.drop ((i0 + vs.length) * size)
  | [], i0, cs, _, _ => ⟨cs, rfl, by simp⟩
  | v :: vs, i0, cs, hv, hl => by
    have hvs := hv v List.mem_cons_self
    have hlen : (i0 + (v :: vs).length) * size = i0 * size + size + vs.length * size := by
      simp only [List.length_cons]
      rw [show i0 + (vs.length + 1) = i0 + 1 + vs.length by omega, Nat.add_mul, Nat.add_mul, Nat.one_mul]
    have hcl : v.cells.toList.length = size := by rw [Array.length_toList]; exact hvs
    have hfo := foldl_set v.cells.toList cs (i0 * size) 0 (by rw [hcl]; omega)
    have hsz : ((v.cells.toList.zipIdx 0).foldl (fun cs (x : Value × Nat) => cs.setIfInBounds (i0 * size + x.2) x.1) cs).toList.length = cs.size := by
      rw [hfo]
      have : cs.toList.length = cs.size := Array.length_toList
      simp only [List.length_append, List.length_take, List.length_drop, hcl]
      omega
    obtain ⟨cs', h1, h2⟩ := fill_lit vs (i0 + 1) ((v.cells.toList.zipIdx 0).foldl (fun cs (x : Value × Nat) => cs.setIfInBounds (i0 * size + x.2) x.1) cs) (fun u hu => hv u (List.mem_cons_of_mem _ hu)) (by
      rw [Array.length_toList] at hsz
      rw [hsz, show i0 + 1 + vs.length = i0 + (v :: vs).length by simp only [List.length_cons]; omega]
      exact hl)
    refine ⟨cs', ?_, ?_⟩
    · rw [List.zipIdx_cons, List.map_cons, Instr.fill]
      simp only
      rw [if_neg (by simp [hvs]; omega), ← h1]
      congr 1
      rw [← Array.foldl_toList]
      simp [Array.toList_zipIdx]
    · rw [h2, hfo, hcl]
      simp only [Nat.add_zero]
      have ht : (cs.toList.take (i0 * size)).length = i0 * size := by
        have : cs.toList.length = cs.size := Array.length_toList
        rw [List.length_take]; omega
      have e1 : (i0 + 1) * size = i0 * size + size := by rw [Nat.add_mul, Nat.one_mul]
      have e2 : (i0 + 1 + vs.length) * size = i0 * size + size + vs.length * size := by rw [Nat.add_mul, Nat.add_mul, Nat.one_mul]
      have e3 : (i0 + (vs.length + 1)) * size = i0 * size + size + vs.length * size := by rw [show i0 + (vs.length + 1) = i0 + 1 + vs.length by omega]; exact e2
      simp only [List.flatMap_cons, List.length_cons, e1, e2, e3]
      have hA : (cs.toList.take (i0 * size) ++ v.cells.toList).length = i0 * size + size := by rw [List.length_append, ht, hcl]
      rw [List.take_left' hA, List.drop_append, hA]
      rw [List.drop_of_length_le (show (cs.toList.take (i0 * size) ++ v.cells.toList).length ≤ i0 * size + size + vs.length * size by rw [hA]; omega)]
      rw [List.drop_drop, show i0 * size + size + (i0 * size + size + vs.length * size - (i0 * size + size)) = i0 * size + size + vs.length * size by omega]
      simp
end

section
variable {P : Program} {T : Ty} {ok0 : Nat → Prop} {μ0 ν : List Nat} {w0 : World}
theorem flat_at {size : Nat} : ∀ (vs : List Value), (∀ v, v ∈ vs → v.cells.size = size) → ∀ (i j : Nat) (v : Value), vs[i]? = some v → j < size → (vs.flatMap fun v => v.cells.toList)[i * size + j]? = v.cells[j]?
  | [], _, i, j, v, h, _ => by simp at h
  | u :: vs, hv, i, j, v, h, hj => by
    have hu : u.cells.toList.length = size := by rw [Array.length_toList]; exact hv u List.mem_cons_self
    rw [List.flatMap_cons]
    cases i with
    | zero =>
      obtain rfl : u = v := by simpa using h
      rw [Nat.zero_mul, Nat.zero_add, List.getElem?_append_left (by omega)]
      simp
    | succ i =>
      rw [List.getElem?_append_right (by rw [hu, Nat.add_mul]; omega), hu, show (i + 1) * size + j - size = i * size + j by rw [Nat.add_mul]; omega]
      exact flat_at vs (fun v hv' => hv v (List.mem_cons_of_mem _ hv')) i j v h hj
theorem flat_len {size : Nat} : ∀ (vs : List Value), (∀ v, v ∈ vs → v.cells.size = size) → (vs.flatMap fun v => v.cells.toList).length = vs.length * size
  | [], _ => by simp
  | u :: vs, hv => by
    have hu : u.cells.toList.length = size := by rw [Array.length_toList]; exact hv u List.mem_cons_self
    rw [List.flatMap_cons, List.length_append, hu, flat_len vs (fun v hv' => hv v (List.mem_cons_of_mem _ hv')), List.length_cons, Nat.add_mul]
    omega
theorem mapM_at {α β : Type} {f : α → Option β} : ∀ {l : List α} {r : List β}, l.mapM f = some r → l.length = r.length ∧ ∀ (i : Nat) y, r[i]? = some y → ∃ x, l[i]? = some x ∧ f x = some y
  | [], r, h => by
    simp at h
    subst h
    exact ⟨rfl, fun i y hy => by simp at hy⟩
  | x :: l, r, h => by
    simp only [List.mapM_cons] at h
    cases hx : f x with
    | none => simp [hx] at h
    | some y =>
      cases hr : l.mapM f with
      | none => simp [hx, hr] at h
      | some r' =>
        simp [hx, hr] at h
        subst h
        obtain ⟨h1, h2⟩ := mapM_at hr
        refine ⟨by simp [h1], fun i z hz => ?_⟩
        cases i with
        | zero =>
          obtain rfl : y = z := by simpa using hz
          exact ⟨x, rfl, hx⟩
        | succ i => exact h2 i z hz
theorem lit_ok (hT : ∀ t i, T t = some i → TyOK P t i) {σ : St} {a : Act} {w : World} {t : TypeId} {n : Nat} {ps : Array (Nat × Operand)} {k : A → St → Prop} (h : RelX ok0 μ0 w0 ν σ a w)
    (he : eLit T σ t n (ps.toList.map fun p => (p.1, strip (σ.ev p.2))) k) :
    ∃ r σ' v w', (Instr.buildSlice t n (ps.map fun (i, x) => (i, a.eval x))).run P w = .ok v w' ∧ RelA ok0 μ0 w0 ν σ' a w' r v ∧ k r σ' ∧ Below w.heap.size w w' := by
  unfold eLit at he
  split at he
  · rename_i e _ _ _ hTs
    obtain ⟨h1, h2, h3, h4, h5, h6, h7, h8⟩ := he
    have hu := slice_under hT hTs
    obtain ⟨i, hi, hs⟩ := known_some h3
    obtain ⟨z, hz, hzl⟩ := run_zero (w := w) (hT _ _ hi)
    have hn : ps.toList.length = n := by
      have := congrArg List.length h1
      simpa using this
    -- of each part: its cells
    have part : ∀ μ ok, Rl μ ok σ a w → ∀ (q : Nat) p, ps.toList[q]? = some p → (leaves (strip (σ.ev p.2)).2).length = T.size e ∧ RLs (RL μ ok w) (leaves (strip (σ.ev p.2)).2) (a.eval p.2).cells.toList := by
      intro μ ok hR q p hq
      have hall := List.all_eq_true.1 h2 (p.1, strip (σ.ev p.2)) (by
        apply List.mem_map.2
        exact ⟨p, List.mem_of_getElem? hq, rfl⟩)
      simp only [Bool.and_eq_true] at hall
      have hlen := List.all_eq_true.1 h7 (p.1, strip (σ.ev p.2)) (by
        apply List.mem_map.2
        exact ⟨p, List.mem_of_getElem? hq, rfl⟩)
      exact ⟨by simpa using hlen, leaves_ok (ev_strip hR p.2 hall.1.1) hall.1.2⟩
    obtain ⟨ok1, _, hR0, _⟩ := id h
    have hcsz : ∀ v, v ∈ (ps.toList.map fun p => a.eval p.2) → v.cells.size = i.size := by
      intro v hv
      obtain ⟨p, hp, rfl⟩ := List.mem_map.1 hv
      obtain ⟨q, hq⟩ := List.getElem?_of_mem hp
      obtain ⟨h9, h11⟩ := part _ ok1 hR0 q p hq
      have h12 := h11.1
      have h13 : (a.eval p.2).cells.toList.length = (a.eval p.2).cells.size := Array.length_toList
      omega
    have hparts : (ps.map fun (i, x) => (i, a.eval x)).toList = ((ps.toList.map fun p => a.eval p.2).zipIdx 0).map fun p => (p.2, p.1) := by
      apply List.ext_getElem?
      intro q
      rw [Array.toList_map, List.getElem?_map, List.getElem?_map, List.getElem?_zipIdx, List.getElem?_map]
      cases hq : ps.toList[q]? with
      | none => rfl
      | some p =>
        have := congrArg (fun l => l[q]?) h1
        simp only [List.map_map, List.getElem?_map, hq, Option.map_some] at this
        have hql : q < n := by rw [← hn]; exact (List.getElem?_eq_some_iff.1 hq).1
        rw [List.getElem?_range hql] at this
        simp at this
        simp [this]
    obtain ⟨cs', hf, hcs'⟩ := fill_lit (size := i.size) (ps.toList.map fun p => a.eval p.2) 0 ((Array.range (n * i.size)).map (z.cells[· % z.cells.size]!)) hcsz (by simp [hn])
    have hcl : cs'.toList = (ps.toList.map fun p => a.eval p.2).flatMap fun v => v.cells.toList := by
      rw [hcs']
      have hd : (((Array.range (n * i.size)).map (z.cells[· % z.cells.size]!)).toList.drop ((0 + (ps.toList.map fun p => a.eval p.2).length) * i.size)) = [] := by
        apply List.drop_of_length_le
        simp [hn]
      rw [hd]
      simp
    have hsz : cs'.size = n * i.size := by
      rw [← Array.length_toList, hcl, flat_len _ hcsz]
      simp [hn]
    have hle : ¬ (n * i.size > 2 ^ 24) := by
      have : n * i.size ≤ 1000 * 1000 := Nat.mul_le_mul h5 (by omega)
      omega
    have hn0 : n * i.size = 0 ∨ ¬ n * i.size = 0 := Decidable.em _
    have hrun : (Instr.buildSlice t n (ps.map fun (i, x) => (i, a.eval x))).run P w = .ok (.slice (some ⟨w.heap.size, 0, none⟩) n n) (w.alloc (.cells cs' e)) := by
      rcases hn0 with h0 | h0
      · have hnz : n = 0 := by
          rcases Nat.mul_eq_zero.1 h0 with h | h
          · exact h
          · omega
        subst hnz
        have hnil : ps.toList.map (fun p => a.eval p.2) = [] := by
          apply List.eq_nil_of_length_eq_zero
          simp [hn]
        rw [hnil] at hf
        simp only [List.zipIdx_nil, List.map_nil, Instr.fill, Option.some.injEq] at hf
        have hce : cs' = #[] := by rw [← hf]; simp
        have hps : ps = #[] := by apply Array.ext'; exact List.length_eq_zero_iff.1 hn
        have hr0 : Array.range 0 = #[] := rfl
        rw [hps, hce]
        simp [hr0, Instr.buildSlice, run_under hu, run_size (hT _ _ hi), Instr.fill, newRow]
      · simp only [Instr.buildSlice, Sem.run_bind, run_under hu, Result.andThen_ok, run_size (hT _ _ hi), if_neg hle, if_neg h0, hz, Sem.run_pure]
        rw [hparts, hf]
        simp [newRow]
    refine ⟨_, _, .slice (some ⟨w.heap.size, 0, none⟩) n n, _, hrun, h.alloc (.cells cs' e) (.arr ((ps.toList.map fun p => (p.1, strip (σ.ev p.2))).map fun p => leaves p.2.2) (T.size e) e) (.one (.own σ.bx.length (T.size e) 0 n)) _ (fun μ ok hR hRL => ⟨⟨_, n, heap_alloc_new w _, by rw [hsz, hs], by simp only [List.length_map]; omega, by simp only [maxLen]; omega, ?_⟩, fun hid => ⟨w.heap.size, n, _, e, hid, by rw [Nat.zero_mul], Nat.le_refl _, heap_alloc_new w _, by rw [hsz, hs, Nat.zero_add]⟩⟩), h8, below_alloc _ _⟩
    intro q el hq
    rw [List.map_map, List.getElem?_map] at hq
    cases hp : ps.toList[q]? with
    | none => rw [hp] at hq; simp at hq
    | some p =>
      rw [hp] at hq
      obtain rfl : leaves (strip (σ.ev p.2)).2 = el := by simpa using hq
      obtain ⟨h10, h12⟩ := part μ ok hR q p hp
      refine ⟨h10, fun jj x hj => ?_⟩
      obtain ⟨v, hv1, hv2⟩ := h12.2 jj x hj
      refine ⟨v, ?_, hRL _ _ hv2⟩
      have hjl : jj < i.size := by rw [← hs, ← h10]; exact (List.getElem?_eq_some_iff.1 hj).1
      have := flat_at _ hcsz q jj (a.eval p.2) (by rw [List.getElem?_map, hp]; rfl) hjl
      rw [← hcl] at this
      rw [hs]
      have e1 : cs'[q * i.size + jj]? = cs'.toList[q * i.size + jj]? := by simp
      rw [e1, this]
      simpa using hv1
  · exact he.elim
end
end Go.Proofs.YthinpbnnpelhhaaGreatDoor.V
