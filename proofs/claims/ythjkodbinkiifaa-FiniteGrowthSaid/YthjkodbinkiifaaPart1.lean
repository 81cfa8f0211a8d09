/- A part of the proof of a given statement: AmDefs, AmExec. No condition. -/
import GoSem.Step
import Derived.Orders
namespace Go.Proofs.Ythjkodbinkiifaa.Am
open Go

/-! The abstract machine: values are Go's, an address's block is an abstract name, its spot the version. -/

def plain0 : Value → Bool
 | .int _ _ => true
 | .bool _ => true
 | .string _ => true
 | .pointer none => true
 | .map none => true
 | .nilFunc => true
 | .nilIface => true
 | .slice none 0 0 => true
 | _ => false

def plain1 : Value → Bool
 | .agg cs => cs.toList.all plain0
 | v => plain0 v

def plain : Value → Bool
 | .tuple vs => !vs.toList.isEmpty && vs.toList.all plain1
 | v => plain1 v

/-- A value that one cell holds. -/
def isCell : Value → Bool
 | .agg _ => false
 | .tuple _ => false
 | _ => true

/-- What may be done with an object: read it; write it; write it and append to it. -/
inductive OMode where
 | ro
 | var
 | row
def OMode.rw : OMode → Bool
 | .ro => false
 | _ => true
def OMode.isRow : OMode → Bool
 | .row => true
 | _ => false

inductive AObj where
 | cells (cs : List Value) (elem : TypeId) (wr : Nat) (md : OMode)
 | map (es : List (Value × Value))
 | iter (s : ByteArray) (pos : Nat)
 | hole

abbrev AHeap := List AObj
abbrev Frame := Nat → Value

def upd (fr : Frame) (d : Nat) (v : Value) : Frame := fun t => if t = d then v else fr t

inductive Ex where
 | normal
 | exit (n : Nat)
 | ret

abbrev LS := List Value × AHeap
abbrev LO := Ex × List Value × AHeap

structure Sys where
 P : Program
 ext : FuncId → Option (List Value → Option Value)
 cl : FuncId → List Value → Nat → AHeap → Option (Value × AHeap)
 lp : (LS → Option (LS ⊕ LO)) → LS → Option LO
 nt : Nat
 prot : Nat
 mt : FuncId → Bool
 room : Bool

/-! ### Types -/
def tsize (P : Program) (t : TypeId) : Option Nat := (P.info? t).map (·.size)
def tbytes (P : Program) (t : TypeId) : Option Nat := (P.info? t).map (·.bytes)
def tzero (P : Program) (t : TypeId) : Option Value := (P.info? t).bind (·.zero)
def descAgg : TypeDesc → Bool
 | .struct _ => true
 | .array _ _ => true
 | _ => false
def tagg (P : Program) (t : TypeId) : Option Bool := (P.underlying t).map descAgg
def descSlice : TypeDesc → Option TypeId
 | .slice e => some e
 | _ => none
def tslice (P : Program) (t : TypeId) : Option TypeId := (P.underlying t).bind descSlice

/-- What a computation comes to that does not look at memory. -/
def apure (P : Program) {α : Type} : Sem α → Option α
 | .pure a => some a
 | .program k => apure P (k P)
 | .mark _ k => apure P k
 | _ => none

/-! ### Whole numbers, strings -/
def abinInt (op : BinOp) (k : IntKind) (a : Int) (k' : IntKind) (b : Int) : Option Value :=
 match op with
 | .shl => if 0 ≤ b then some (.int k (k.wrap (a * 2 ^ (min b.toNat k.bits)))) else none
 | .shr => if 0 ≤ b then some (.int k (a.fdiv (2 ^ (min b.toNat k.bits)))) else none
 | .add => if k = k' then some (.int k (k.wrap (a + b))) else none
 | .sub => if k = k' then some (.int k (k.wrap (a - b))) else none
 | .mul => if k = k' then some (.int k (k.wrap (a * b))) else none
 | .quo => if k = k' ∧ b ≠ 0 then some (.int k (k.wrap (a.tdiv b))) else none
 | .rem => if k = k' ∧ b ≠ 0 then some (.int k (a.tmod b)) else none
 | .and => if k = k' then some (.int k (k.wrap (BitVec.ofInt k.bits a &&& BitVec.ofInt k.bits b).toNat)) else none
 | .or => if k = k' then some (.int k (k.wrap (BitVec.ofInt k.bits a ||| BitVec.ofInt k.bits b).toNat)) else none
 | .xor => if k = k' then some (.int k (k.wrap (BitVec.ofInt k.bits a ^^^ BitVec.ofInt k.bits b).toNat)) else none
 | .andNot => if k = k' then some (.int k (k.wrap (BitVec.ofInt k.bits a &&& ~~~(BitVec.ofInt k.bits b)).toNat)) else none
 | .eql => if k = k' then some (.bool (a == b)) else none
 | .neq => if k = k' then some (.bool (a != b)) else none
 | .lss => if k = k' then some (.bool (a < b)) else none
 | .leq => if k = k' then some (.bool (a ≤ b)) else none
 | .gtr => if k = k' then some (.bool (a > b)) else none
 | .geq => if k = k' then some (.bool (a ≥ b)) else none

def abinStr (op : BinOp) (a b : ByteArray) : Option Value :=
 match op with
 | .add => if a.size + b.size ≤ 9223372036854775807 then some (.string (a ++ b)) else none
 | .eql => some (.bool (a.toList == b.toList))
 | .neq => some (.bool (!(a.toList == b.toList)))
 | .lss => some (.bool (Op.bytesLess a.toList b.toList))
 | .leq => some (.bool (Op.bytesLess a.toList b.toList || a.toList == b.toList))
 | .gtr => some (.bool (!(Op.bytesLess a.toList b.toList || a.toList == b.toList)))
 | .geq => some (.bool (!(Op.bytesLess a.toList b.toList)))
 | _ => none

/-- Equality of what is no number and no string: against nil, of bools; of structs and arrays by the model's own reckoning. -/
def aeq (P : Program) (t : TypeId) (x y : Value) : Option Bool :=
 match P.underlying t, x, y with
 | some .bool, .bool a, .bool b => some (a == b)
 | some (.pointer _), .pointer none, .pointer b => some b.isNone
 | some (.pointer _), .pointer (some _), .pointer none => some false
 | some (.slice _), .slice none _ _, .slice b _ _ => some b.isNone
 | some (.slice _), .slice (some _) _ _, .slice none _ _ => some false
 | some (.map _ _), .map none, .map b => some b.isNone
 | some (.map _ _), .map (some _), .map none => some false
 | some (.func _ _ _), .nilFunc, .nilFunc => some true
 | some (.func _ _ _), .nilFunc, .func _ _ _ => some false
 | some (.func _ _ _), .func _ _ _, .nilFunc => some false
 | _, .agg xs, .agg ys => if plain1 (.agg xs) && plain1 (.agg ys) && !(P.eqGuardType P.depth t) then apure P (Op.equal t x y) else none
 | _, _, _ => none

def abin (P : Program) (op : BinOp) (t : TypeId) (x y : Value) : Option Value :=
 match x, y with
 | .int k a, .int k' b => abinInt op k a k' b
 | .string a, .string b => abinStr op a b
 | x, y =>
  match op with
  | .eql => (aeq P t x y).map .bool
  | .neq => (aeq P t x y).map fun b => .bool (!b)
  | _ => none

def aun (op : UnOp) (x : Value) : Option Value :=
 match op, x with
 | .not, .bool b => some (.bool (!b))
 | .neg, .int k n => some (.int k (k.wrap (0 - n)))
 | .xor, .int k n => some (.int k (k.wrap (BitVec.ofInt k.bits (if k.signed then -1 else k.max) ^^^ BitVec.ofInt k.bits n).toNat))
 | _, _ => none

/-! ### Memory -/
def getCells (H : AHeap) (id L off n : Nat) : Option (List Value) :=
 match H[id]? with
 | some (.cells cs _ wr _) => if wr ≤ L ∧ L ≤ cs.length ∧ off + n ≤ L then some ((cs.drop off).take n) else none
 | _ => none

def putList (cs : List Value) (off : Nat) (vs : List Value) : List Value := cs.take off ++ vs ++ cs.drop (off + vs.length)

def setCells (H : AHeap) (prot id L off : Nat) (vs : List Value) : Option AHeap :=
 match H[id]? with
 | some (.cells cs e _ md) =>
  if md.rw = true ∧ prot ≤ id ∧ L = cs.length ∧ off + vs.length ≤ L ∧ vs.all isCell = true then some (H.set id (.cells (putList cs off vs) e L md)) else none
 | _ => none

def cellsOf (v : Value) : List Value := v.cells.toList

/-- The table of math/bits: where the lowest bit is. -/
def dBtab : List Nat := [0, 1, 56, 2, 57, 49, 28, 3, 61, 58, 42, 50, 38, 29, 17, 4, 62, 47, 59, 36, 45, 43, 51, 22, 53, 39, 33, 30, 24, 18, 12, 5, 63, 55, 48, 27, 60, 41, 37, 16, 46, 35, 44, 21, 52, 32, 23, 11, 54, 26, 40, 15, 34, 20, 31, 10, 25, 14, 19, 9, 13, 8, 7, 6]
/-- What is known of a package-level variable. -/
def known (P : Program) (g : Nat) : Option (List Value) :=
 match P.globals[g]? with
 | some x => if x.name = "math/bits.deBruijn64tab" then some (dBtab.map fun (n : Nat) => .int .u8 (n : Int)) else none
 | none => none
def aload (P : Program) (t : TypeId) (p : Value) (H : AHeap) : Option Value :=
 match p with
 | .pointer (some ⟨id, off, some L⟩) =>
  match tagg P t, tsize P t with
  | some true, some n => (getCells H id L off n).map fun cs => .agg cs.toArray
  | some false, some _ => (getCells H id L off 1).map fun cs => cs.headD undef
  | _, _ => none
 | .pointer (some ⟨g, off, none⟩) =>
  match tagg P t, tsize P t with
  | some false, some _ => (known P g).bind fun cs => cs[off]?
  | _, _ => none
 | _ => none

def astore (P : Program) (prot : Nat) (t : TypeId) (p v : Value) (H : AHeap) : Option AHeap :=
 match p with
 | .pointer (some ⟨id, off, some L⟩) =>
  match tsize P t with
  | some n => if (cellsOf v).length = n then setCells H prot id L off (cellsOf v) else none
  | _ => none
 | _ => none

/-- A new variable; a new row of a slice. -/
def newVarObj (H : AHeap) (cs : List Value) (e : TypeId) : AHeap := H ++ [.cells cs e cs.length .var]
def newObj (H : AHeap) (cs : List Value) (e : TypeId) : AHeap := H ++ [.cells cs e cs.length .row]
def ptrTo (H : AHeap) (n : Nat) : Value := .pointer (some ⟨H.length, 0, some n⟩)
def sliceTo (H : AHeap) (n len : Nat) : Value := .slice (some ⟨H.length, 0, some n⟩) len len
/-- The empty slice of no room; an empty slice of unknown room. -/
def emptySlice : Value := .slice (some ⟨0, 0, none⟩) 0 0
def lostSlice : Value := .slice (some ⟨1, 0, none⟩) 0 0

def abox (e : TypeId) (v : Value) (H : AHeap) : Option (Value × AHeap) :=
 if (cellsOf v).all isCell then some (ptrTo H (cellsOf v).length, newVarObj H (cellsOf v) e) else none

def aalloc (P : Program) (e : TypeId) (H : AHeap) : Option (Value × AHeap) :=
 (tzero P e).bind fun z => if (cellsOf z).all plain0 then some (ptrTo H (cellsOf z).length, newVarObj H (cellsOf z) e) else none

def afill (place : Nat → Option (Nat × Nat)) (cells : List Value) : List (Nat × Value) → Option (List Value)
 | [] => some cells
 | (i, v) :: rest =>
  match place i with
  | none => none
  | some (off, size) =>
   if (cellsOf v).length = size ∧ (cellsOf v).all isCell ∧ off + (cellsOf v).length ≤ cells.length then afill place (putList cells off (cellsOf v)) rest
   else none

def repCells (z : List Value) : Nat → List Value
 | 0 => []
 | n + 1 => z ++ repCells z n

def fieldPlaces (P : Program) (fs : List Field) (i : Nat) : Option (Nat × Nat) :=
 (fs[i]?).bind fun f => (tsize P f.type).map fun n => (f.offset, n)

def abuild (P : Program) (t : TypeId) (parts : List (Nat × Value)) : Option Value :=
 (tzero P t).bind fun z =>
  if (cellsOf z).all plain0 then
   match P.underlying t with
   | some (.struct fs) => if fs.toList.all (fun f => (tsize P f.type).isSome) then (afill (fieldPlaces P fs.toList) (cellsOf z) parts).map fun cs => .agg cs.toArray else none
   | some (.array _ e) => (tsize P e).bind fun n => (afill (fun i => some (i * n, n)) (cellsOf z) parts).map fun cs => .agg cs.toArray
   | _ => none
  else none

def abuildSlice (P : Program) (t : TypeId) (len : Nat) (parts : List (Nat × Value)) (H : AHeap) : Option (Value × AHeap) :=
 (tslice P t).bind fun e => (tsize P e).bind fun n =>
  if len = 0 then (if parts.isEmpty then some (emptySlice, H) else none)
  else if n = 0 ∨ len * n > 2 ^ 24 then none
  else (tzero P e).bind fun z =>
   if (cellsOf z).all plain0 ∧ (cellsOf z).length = n then
    (afill (fun i => some (i * n, n)) (repCells (cellsOf z) len) parts).map fun cs => (sliceTo H (len * n) len, newObj H cs e)
   else none

def amakeSlice (P : Program) (t : TypeId) (l c : Value) (H : AHeap) : Option (Value × AHeap) :=
 match l, c with
 | .int _ n, .int _ m =>
  (tslice P t).bind fun e => (tsize P e).bind fun s => (tbytes P e).bind fun by_ => (tzero P e).bind fun z =>
   if 0 ≤ n ∧ n = m ∧ n ≤ 9223372036854775807 ∧ (by_ : Int) * n ≤ 2 ^ 48 ∧ (cellsOf z).all plain0 ∧ (cellsOf z).length = s ∧ 0 < s then
    some (sliceTo H (n.toNat * s) n.toNat, newObj H (repCells (cellsOf z) n.toNat) e)
   else none
 | _, _ => none

def afieldAddr (P : Program) (s : TypeId) (x : Value) (f : Nat) : Option Value :=
 match P.underlying s, x with
 | some (.struct fs), .pointer (some ⟨id, off, some L⟩) =>
  (fs[f]?).bind fun fd => (tsize P fd.type).bind fun n => if n = 0 then none else some (.pointer (some ⟨id, off + fd.offset, some L⟩))
 | _, _ => none

def aindexAddr (P : Program) (t : TypeId) (x i : Value) : Option Value :=
 match P.underlying t, x, i with
 | some (.slice e), .slice (some ⟨id, off, some L⟩) len _, .int _ n =>
  (tsize P e).bind fun s => if 0 ≤ n ∧ n < len then some (.pointer (some ⟨id, off + n.toNat * s, some L⟩)) else none
 | some (.array len e), .pointer (some ⟨id, off, some L⟩), .int _ n =>
  (tsize P e).bind fun s => if 0 ≤ n ∧ n < len then some (.pointer (some ⟨id, off + n.toNat * s, some L⟩)) else none
 | some (.array len e), .pointer (some ⟨g, off, none⟩), .int _ n =>
  (tsize P e).bind fun s => if 0 ≤ n ∧ n < len then some (.pointer (some ⟨g, off + n.toNat * s, none⟩)) else none
 | _, _, _ => none

def apart (P : Program) (t : TypeId) (cs : List Value) (off : Nat) : Option Value :=
 match tagg P t, tsize P t with
 | some true, some n => if off + n ≤ cs.length then some (.agg ((cs.drop off).take n).toArray) else none
 | some false, some _ => if off < cs.length then some (cs.getD off undef) else none
 | _, _ => none

def afield (P : Program) (t : TypeId) (x : Value) (f : Nat) : Option Value :=
 match P.underlying t, x with
 | some (.struct fs), .agg cs => (fs[f]?).bind fun fd => apart P fd.type cs.toList fd.offset
 | _, _ => none

def aindex (P : Program) (t : TypeId) (x i : Value) : Option Value :=
 match P.underlying t, x, i with
 | some .string, .string s, .int _ n => if 0 ≤ n ∧ n < s.size then some (.int .u8 (s.get! n.toNat).toNat) else none
 | some (.array len e), .agg cs, .int _ n => (tsize P e).bind fun z => if 0 ≤ n ∧ n < len then apart P e cs.toList (n.toNat * z) else none
 | _, _, _ => none

def aextract (x : Value) (i : Nat) : Option Value :=
 match x with
 | .tuple vs =>
  match vs.toList[i]? with
  | some (.tuple _) => none
  | r => r
 | _ => none

def bytesOfCells : List Value → Option (List UInt8)
 | [] => some []
 | .int .u8 n :: r => (bytesOfCells r).map fun l => UInt8.ofNat n.toNat :: l
 | _ => none

/-- The cells of a slice. -/
def cellsAt (s : Nat) (x : Value) (H : AHeap) : Option (List Value) :=
 match x with
 | .slice none 0 0 => some []
 | .slice (some ⟨_, _, none⟩) 0 0 => some []
 | .slice (some ⟨id, off, some L⟩) n _ => getCells H id L off (n * s)
 | _ => none

def aconv (P : Program) (src dst : TypeId) (x : Value) (H : AHeap) : Option Value :=
 match P.underlying src, P.underlying dst, x with
 | some _, some (.int k), .int _ n => some (.int k (k.wrap n))
 | some _, some .string, .int _ n => some (.string (Utf8.encode n))
 | some _, some .string, .string s => some (.string s)
 | some (.slice e), some .string, x =>
  match P.underlying e with
  | some (.int .u8) => (cellsAt 1 x H).bind fun cs => (bytesOfCells cs).map fun l => .string ⟨l.toArray⟩
  | _ => none
 | _, _, _ => none

def boundOf (d : Nat) : Option Value → Option Nat
 | none => some d
 | some (.int _ n) => if 0 ≤ n then some n.toNat else none
 | some _ => none

def isVar (H : AHeap) (id L : Nat) : Bool :=
 match H[id]? with
 | some (.cells cs _ _ .var) => cs.length == L
 | _ => false

def aslice (P : Program) (t : TypeId) (x : Value) (lo hi mx : Option Value) (H : AHeap) : Option Value :=
 match mx with
 | some _ =>
  match P.underlying t, x with
  | some (.slice e), .slice (some ⟨id, off, some L⟩) _ cap =>
   (boundOf 0 lo).bind fun l => (boundOf 0 hi).bind fun h => (boundOf 0 mx).bind fun m => (tsize P e).bind fun s =>
    if hi.isSome ∧ l < h ∧ h ≤ m ∧ m ≤ cap then some (.slice (some ⟨id, off + l * s, some L⟩) (h - l) (m - l)) else none
  | _, _ => none
 | none =>
  match P.underlying t, x with
  | some .string, .string s =>
   (boundOf 0 lo).bind fun l => (boundOf s.size hi).bind fun h => if l ≤ h ∧ h ≤ s.size then some (.string (s.extract l h)) else none
  | some (.slice e), .slice (some ⟨id, off, some L⟩) len cap =>
   (boundOf 0 lo).bind fun l => (boundOf len hi).bind fun h => (tsize P e).bind fun s =>
    if l ≤ h ∧ h ≤ cap then (if l < cap ∨ l = 0 then some (.slice (some ⟨id, off + l * s, some L⟩) (h - l) (cap - l)) else some lostSlice) else none
  | some (.slice e), .slice none 0 0 =>
   (boundOf 0 lo).bind fun l => (boundOf 0 hi).bind fun h => (tsize P e).bind fun _ => if l = 0 ∧ h = 0 then some (.slice none 0 0) else none
  | some (.array n e), .pointer (some ⟨id, off, some L⟩) =>
   (boundOf 0 lo).bind fun l => (boundOf n hi).bind fun h => (tsize P e).bind fun s =>
    if l ≤ h ∧ h ≤ n ∧ (l < n ∨ l = 0) ∧ isVar H id L = true then some (.slice (some ⟨id, off + l * s, some L⟩) (h - l) (n - l)) else none
  | _, _ => none

def alen (P : Program) (t : TypeId) (x : Value) (H : AHeap) : Option Value :=
 match P.underlying t, x with
 | some .string, .string s => some (.int .i64 s.size)
 | some (.array n _), _ => some (.int .i64 n)
 | some (.slice _), .slice _ n _ => some (.int .i64 n)
 | some (.map _ _), .map none => some (.int .i64 0)
 | some (.map _ _), .map (some id) =>
  match H[id]? with
  | some (.map es) => some (.int .i64 es.length)
  | _ => none
 | _, _ => none

/-- The cells of what is appended, and how many elements it has. -/
def srcCells (P : Program) (s : Nat) (t : TypeId) (x : Value) (H : AHeap) : Option (Nat × List Value) :=
 match P.underlying t, x with
 | some (.slice _), .slice a n c => (cellsAt s (.slice a n c) H).map fun cs => (n, cs)
 | _, _ => none

def aappend (P : Program) (prot : Nat) (room : Bool) (t t' : TypeId) (x y : Value) (H : AHeap) : Option (Value × AHeap) :=
 (tslice P t).bind fun e => (tsize P e).bind fun s => (tbytes P e).bind fun by_ => (tzero P e).bind fun z =>
  if t = t' ∧ 0 < s ∧ 0 < by_ ∧ (cellsOf z).length = s then
   (srcCells P s t' y H).bind fun r =>
    let m := r.1
    let cs := r.2
    if cs.length = m * s ∧ cs.all isCell then
     match x with
     | .slice none 0 0 => if m = 0 then some (.slice none 0 0, H) else if m * by_ ≤ 140737488355328 then some (sliceTo H (m * s) m, newObj H cs e) else none
     | .slice (some ⟨0, 0, none⟩) 0 0 => if m = 0 then some (emptySlice, H) else if m * by_ ≤ 140737488355328 then some (sliceTo H (m * s) m, newObj H cs e) else none
     | .slice (some ⟨id, off, some L⟩) n c =>
      if m = 0 then (if n ≤ c then some (.slice (some ⟨id, off, some L⟩) n c, H) else none)
      else if n + m ≤ c then (if room = false then none else setCells H prot id L (off + n * s) cs).map (fun H' => (.slice (some ⟨id, off, some L⟩) (n + m) c, H'))
      else
       match H[id]? with
       | some (.cells old e' wr md) =>
        if md.isRow = true ∧ prot ≤ id ∧ off = 0 ∧ e' = e ∧ L = old.length ∧ n * s = L ∧ (n + m) * by_ ≤ 140737488355328 then
         some (.slice (some ⟨id, 0, some ((n + m) * s)⟩) (n + m) (n + m), H.set id (.cells (old ++ cs) e wr md))
        else none
       | _ => none
     | _ => none
    else none
  else none

def acopy (P : Program) (prot : Nat) (t t' : TypeId) (x y : Value) (H : AHeap) : Option (Value × AHeap) :=
 (tslice P t).bind fun e => (tsize P e).bind fun s => (srcCells P s t' y H).bind fun r =>
  match x with
  | .slice none 0 0 => some (.int .i64 0, H)
  | .slice (some ⟨_, _, none⟩) 0 0 => some (.int .i64 0, H)
  | .slice (some ⟨id, off, some L⟩) n _ =>
   if r.2.length = r.1 * s then
    (setCells H prot id L off (r.2.take (min r.1 n * s))).map fun H' => (.int .i64 ((min r.1 n : Nat) : Int), H')
   else none
  | _ => none

def amax (x y : Value) : Option Value :=
 match x, y with
 | .int k a, .int _ b => some (.int k (if b > a then b else a))
 | _, _ => none
def amin (x y : Value) : Option Value :=
 match x, y with
 | .int k a, .int _ b => some (.int k (if b < a then b else a))
 | _, _ => none

/-! ### Maps: keys that hold no address -/
def keysOf (es : List (Value × Value)) : List MapEntry := es.map fun x => { key := x.1, val := undef, born := 0 }
def afind (P : Program) (kt : TypeId) (k : Value) (es : List (Value × Value)) : Option (Option Nat) :=
 (apure P (Instr.findKey kt k (keysOf es))).map fun r => r.map (·.1)

def tmap (P : Program) (t : TypeId) : Option (TypeId × TypeId) :=
 match P.underlying t with
 | some (.map k e) => some (k, e)
 | _ => none

def amapOf (x : Value) (H : AHeap) : Option (List (Value × Value)) :=
 match x with
 | .map none => some []
 | .map (some id) =>
  match H[id]? with
  | some (.map es) => some es
  | _ => none
 | _ => none

def alookup (P : Program) (t : TypeId) (x k : Value) (ok : Bool) (H : AHeap) : Option Value :=
 (tmap P t).bind fun r => (amapOf x H).bind fun es =>
  if plain1 k then
   (apure P (Instr.checkKey es.isEmpty 10000 r.1 k)).bind fun _ => (afind P r.1 k es).bind fun i => (tzero P r.2).bind fun z =>
    if plain1 z then
     let v := (i.bind fun i => (es[i]?).map (·.2)).getD z
     some (if ok then .tuple #[v, .bool i.isSome] else v)
    else none
  else none

def amapUpdate (P : Program) (prot : Nat) (t : TypeId) (x k v : Value) (H : AHeap) : Option AHeap :=
 match x with
 | .map (some id) =>
  match H[id]? with
  | some (.map es) =>
   (tmap P t).bind fun r =>
    if plain1 k ∧ prot ≤ id then
     (apure P (Instr.checkKey false 10000 r.1 k)).bind fun _ => (afind P r.1 k es).bind fun i =>
      match i with
      | some i =>
       match es[i]? with
       | some old => if Instr.sameBits 10000 old.1 k then some (H.set id (.map (es.set i (k, v)))) else none
       | none => none
      | none => some (H.set id (.map (es ++ [(k, v)])))
    else none
  | _ => none
 | _ => none

def amakeMap (H : AHeap) : Option (Value × AHeap) := some (.map (some H.length), H ++ [.map []])

def amapDelete (P : Program) (prot : Nat) (t : TypeId) (x k : Value) (H : AHeap) : Option AHeap :=
 match x with
 | .map (some id) =>
  match H[id]? with
  | some (.map es) =>
   (tmap P t).bind fun r =>
    if plain1 k ∧ prot ≤ id then
     (apure P (Instr.checkKey es.isEmpty 10000 r.1 k)).bind fun _ => (afind P r.1 k es).bind fun i =>
      match i with
      | some i => some (H.set id (.map (es.eraseIdx i)))
      | none => some H
    else none
  | _ => none
 | _ => none

/-! ### A string that is ranged over -/
def arange (P : Program) (t : TypeId) (x : Value) (H : AHeap) : Option (Value × AHeap) :=
 match P.underlying t, x with
 | some .string, .string s => some (.pointer (some ⟨H.length, 0, some 0⟩), H ++ [.iter s 0])
 | _, _ => none

def anext (prot : Nat) (x : Value) (H : AHeap) : Option (Value × AHeap) :=
 match x with
 | .pointer (some ⟨id, 0, some 0⟩) =>
  match H[id]? with
  | some (.iter s pos) =>
   if prot ≤ id then
    (if pos < s.size then
     some (.tuple #[.bool true, .int .i64 pos, .int .i32 (Utf8.decode s pos).1], H.set id (.iter s (pos + (Utf8.decode s pos).2)))
    else some (.tuple #[.bool false], H))
   else none
  | _ => none
 | _ => none

/-! ### One operation -/
def aeval (fr : Frame) : Operand → Value
 | .tmp t => fr t
 | .const v => if plain v then v else undef
 | .global g => .pointer (some ⟨g, 0, none⟩)
 | .func f => .func (.func f) #[] #[]

def quiet (H : AHeap) (r : Option Value) : Option (Value × AHeap) := r.map fun v => (v, H)
def effect (r : Option AHeap) : Option (Value × AHeap) := r.map fun H => (undef, H)

def acall (S : Sys) (f : Value) (args : List Value) (H : AHeap) : Option (Value × AHeap) :=
 match f with
 | .func (.func g) first cap =>
  match S.ext g with
  | some e => if args.all plain1 ∧ first.toList.isEmpty ∧ cap.toList.isEmpty then quiet H ((e args).bind fun v => if plain v then some v else none) else none
  | none => S.cl g (first.toList ++ (args ++ cap.toList)) S.prot H
 | _ => none

/-- In a region of open order a function value may be called only where it leaves the caller's memory alone. -/
def dynOK (S : Sys) (f : Operand) (v : Value) : Bool :=
 match f with
 | .tmp _ => S.room || (match v with
  | .func (.func g) _ _ => !(S.mt g)
  | _ => false)
 | _ => true

def abuiltin (S : Sys) (b : Builtin) (ts : List TypeId) (args : List Value) (H : AHeap) : Option (Value × AHeap) :=
 match b, ts, args with
 | .len, [t], [x] => quiet H (alen S.P t x H)
 | .append, [t, t'], [x, y] => aappend S.P S.prot S.room t t' x y H
 | .copy, [t, t'], [x, y] => acopy S.P S.prot t t' x y H
 | .max, _, [x, y] => quiet H (amax x y)
 | .min, _, [x, y] => quiet H (amin x y)
 | .delete, t :: _, [x, k] => effect (amapDelete S.P S.prot t x k H)
 | _, _, _ => none

def anil (x : Value) : Option Value :=
 match x with
 | .pointer (some a) => some (.pointer (some a))
 | .func (.func f) first cap => some (.func (.func f) first cap)
 | .map m => some (.map m)
 | .slice a n c => some (.slice a n c)
 | _ => none

def aop (S : Sys) (o : Op) (fr : Frame) (H : AHeap) : Option (Value × AHeap) :=
 match o with
 | .move x => some (aeval fr x, H)
 | .assign x => some (aeval fr x, H)
 | .pick c a b =>
  match aeval fr c with
  | .bool t => some (if t then aeval fr a else aeval fr b, H)
  | _ => none
 | .alloc e => aalloc S.P e H
 | .box e x => abox e (aeval fr x) H
 | .build t ps => quiet H (abuild S.P t (ps.toList.map fun p => (p.1, aeval fr p.2)))
 | .buildSlice t n ps => abuildSlice S.P t n (ps.toList.map fun p => (p.1, aeval fr p.2)) H
 | .load t a => quiet H (aload S.P t (aeval fr a) H)
 | .store t a x => effect (astore S.P S.prot t (aeval fr a) (aeval fr x) H)
 | .nilCheck x => quiet H (anil (aeval fr x))
 | .binOp op t x y _ => quiet H (abin S.P op t (aeval fr x) (aeval fr y))
 | .unOp op _ x => quiet H (aun op (aeval fr x))
 | .convert src dst x => quiet H (aconv S.P src dst (aeval fr x) H)
 | .makeFunc (.func f) first cap => some (.func (.func f) (first.toList.map (aeval fr)).toArray (cap.toList.map (aeval fr)).toArray, H)
 | .makeMap _ none => amakeMap H
 | .makeSlice t l c => amakeSlice S.P t (aeval fr l) (aeval fr c) H
 | .slice t x lo hi mx => quiet H (aslice S.P t (aeval fr x) (lo.map (aeval fr)) (hi.map (aeval fr)) (mx.map (aeval fr)) H)
 | .fieldAddr t x f => quiet H (afieldAddr S.P t (aeval fr x) f)
 | .field t x f => quiet H (afield S.P t (aeval fr x) f)
 | .indexAddr t x i => quiet H (aindexAddr S.P t (aeval fr x) (aeval fr i))
 | .index t x i => quiet H (aindex S.P t (aeval fr x) (aeval fr i))
 | .lookup t x i ok => quiet H (alookup S.P t (aeval fr x) (aeval fr i) ok H)
 | .mapUpdate t m k v => effect (amapUpdate S.P S.prot t (aeval fr m) (aeval fr k) (aeval fr v) H)
 | .insert t m k v => effect (amapUpdate S.P S.prot t (aeval fr m) (aeval fr k) (aeval fr v) H)
 | .range t x => arange S.P t (aeval fr x) H
 | .next it true => anext S.prot (aeval fr it) H
 | .extract t i => quiet H (aextract (aeval fr t) i)
 | .call { callee := .builtin b, args := args, argTypes := ts } => abuiltin S b ts.toList (args.toList.map (aeval fr)) H
 | .call { callee := .value f, args := args, argTypes := _ } => match dynOK S f (aeval fr f) with
  | true => acall S (aeval fr f) (args.toList.map (aeval fr)) H
  | false => none
 | _ => none

/-! ### Regions and code -/
def put (nt : Nat) (fr : Frame) (d : Option Tmp) (v : Value) : Frame :=
 match d with
 | some d => if d < nt then upd fr d v else fr
 | none => fr

def guardVal (ops : Array Oper) (fr : Frame) (j : Nat) : Value :=
 match (ops[j]?).bind (·.dst) with
 | some d => fr d
 | none => undef

def onBool {β : Type} (v : Value) (k : Bool → Option β) : Option β :=
 match v with
 | .bool b => k b
 | _ => none

/-- What stands where an operation was passed by. -/
def skipV : Value := .tuple #[.tuple #[]]

/-- Is an operation behind a guard carried out? -/
def onGuard {β : Type} (v : Value) (want : Bool) (k : Bool → Option β) : Option β :=
 match v with
 | .bool b => k (b == want)
 | .tuple vs => if vs.toList.length = 1 then k false else none
 | _ => none

def stepWith {β : Type} (f : Op → Frame → AHeap → Option (Value × AHeap)) (nt : Nat) (ops : Array Oper) (o : Oper) (fr : Frame) (H : AHeap) (k : Frame → AHeap → Option β) : Option β :=
 match o.guard with
 | none => (f o.op fr H).bind fun r => k (put nt fr o.dst r.1) r.2
 | some (j, want) => onGuard (guardVal ops fr j) want fun b => (if b then f o.op fr H else some (skipV, H)).bind fun r => k (put nt fr o.dst r.1) r.2

def stepOp {β : Type} (S : Sys) (ops : Array Oper) (o : Oper) (fr : Frame) (H : AHeap) (k : Frame → AHeap → Option β) : Option β := stepWith (aop S) S.nt ops o fr H k

def runOps {β : Type} (S : Sys) (ops : Array Oper) : List Oper → Frame → AHeap → (Frame → AHeap → Option β) → Option β
 | [], fr, H, k => k fr H
 | o :: rest, fr, H, k => stepOp S ops o fr H fun fr H => runOps S ops rest fr H k

inductive ACode where
 | skip
 | region (id : Nat) (ops : Array Oper) (draw : Bool)
 | seq (a b : ACode)
 | cond (c : Operand) (a b : ACode) (lv : List Nat)
 | block (id : Nat) (b : ACode) (lv : List Nat)
 | loop (b : ACode) (lv lo : List Nat)
 | exit (id : Nat)
 | scope (b : ACode)
 | label (l : Nat)
 | ret
 | other (c : Code)

def strip : ACode → Code
 | .skip => .skip
 | .region id ops draw => .region id ops draw
 | .seq a b => .seq (strip a) (strip b)
 | .cond c a b _ => .cond c (strip a) (strip b)
 | .block id b _ => .block id (strip b)
 | .loop b _ _ => .loop (strip b)
 | .exit id => .exit id
 | .scope b => .scope (strip b)
 | .label l => .label l
 | .ret => .ret
 | .other c => c

def annot : Code → List (List Nat) → ACode × List (List Nat)
 | .skip, l => (.skip, l)
 | .region id ops draw, l => (.region id ops draw, l)
 | .seq a b, l => (.seq (annot a l).1 (annot b (annot a l).2).1, (annot b (annot a l).2).2)
 | .cond c a b, l => (.cond c (annot a l.tail).1 (annot b (annot a l.tail).2).1 (l.headD []), (annot b (annot a l.tail).2).2)
 | .block id b, l => (.block id (annot b l.tail).1 (l.headD []), (annot b l.tail).2)
 | .loop b, l => (.loop (annot b l.tail.tail).1 (l.headD []) (l.tail.headD []), (annot b l.tail.tail).2)
 | .exit id, l => (.exit id, l)
 | .scope b, l => (.scope (annot b l).1, (annot b l).2)
 | .label x, l => (.label x, l)
 | .ret, l => (.ret, l)
 | c, l => (.other c, l)

def pack (lv : List Nat) (fr : Frame) : List Value := lv.map fr
/-- A frame of some slots alone. -/
def slotsOf : List Nat → List Value → Frame
 | s :: lv, v :: vs => fun t => if t = s then v else slotsOf lv vs t
 | _, _ => fun _ => undef

def inBlock (id : Nat) : Ex → Ex
 | .exit n => if n = id then .normal else .exit n
 | e => e

/-! ### Regions whose order is open -/
inductive Kd where
 | p
 | r
 | a
 | l (mono : Bool)

/-- What an operation does to memory: nothing; it reads; it makes one object; anything. 'rsv': the places of new objects are laid ahead. -/
def opKd (S : Sys) (rsv : Bool) : Op → Kd
 | .move _ => .p
 | .assign _ => .p
 | .pick _ _ _ => .p
 | .build _ _ => .p
 | .nilCheck _ => .p
 | .binOp _ _ _ _ _ => .p
 | .unOp _ _ _ => .p
 | .makeFunc _ _ _ => .p
 | .fieldAddr _ _ _ => .p
 | .field _ _ _ => .p
 | .indexAddr _ _ _ => .p
 | .index _ _ _ => .p
 | .extract _ _ => .p
 | .load _ _ => .r
 | .lookup _ _ _ _ => .r
 | .convert _ _ _ => .r
 | .slice _ _ _ _ _ => .r
 | .alloc _ => if rsv then .a else .l true
 | .box _ _ => if rsv then .a else .l true
 | .buildSlice _ _ _ => if rsv then .a else .l true
 | .makeSlice _ _ _ => if rsv then .a else .l true
 | .makeMap _ none => if rsv then .a else .l true
 | .range _ _ => .l true
 | .call { callee := .builtin .len, args := _, argTypes := _ } => .r
 | .call { callee := .builtin .max, args := _, argTypes := _ } => .p
 | .call { callee := .builtin .min, args := _, argTypes := _ } => .p
 | .call { callee := .builtin .append, args := _, argTypes := _ } => if rsv then .a else .l (!S.room)
 | .call { callee := .value (.func f), args := _, argTypes := _ } => .l (!(S.mt f))
 | .call { callee := .value (.tmp _), args := _, argTypes := _ } => .l (!S.room)
 | _ => .l false

def isA : Kd → Bool
 | .a => true
 | _ => false

def binding (o : Oper) : List Nat := o.after.toList.filterMap fun e => if Region.binds .any e then some e.on else none
def maskStep (ms : List Nat) (o : Oper) : Nat := (binding o).foldl (fun m j => m ||| 2 ^ j ||| ms.getD j 0) 0
/-- Of each operation the operations that must stand ahead of it, as bits. -/
def masksGo : List Oper → List Nat → List Nat
 | [], ms => ms
 | o :: os, ms => masksGo os (ms ++ [maskStep ms o])
def masks (ops : Array Oper) : List Nat := masksGo ops.toList []

/-- May two operations, of which neither need stand ahead, be taken either way? (x ahead of y in the order that is taken.) -/
def pairOk : Kd → Kd → Bool
 | .p, _ => true
 | _, .p => true
 | .r, .r => true
 | .r, .a => true
 | .a, .r => true
 | .r, .l m => m
 | .l m, .r => m
 | .a, .a => true
 | .l m, .a => m
 | _, _ => false

def kdAt (S : Sys) (rsv : Bool) (ops : Array Oper) (i : Nat) : Kd :=
 match ops[i]? with
 | some o => opKd S rsv o.op
 | none => .l false

def firstReady (ms : List Nat) (done : Nat) (c : Nat → Bool) : List Nat → Option Nat
 | [] => none
 | i :: l => if c i && ((ms.getD i 0 &&& done) == ms.getD i 0) then some i else firstReady ms done c l

def canonGo (kd : Nat → Bool) (ms : List Nat) : Nat → List Nat → Nat → List Nat
 | 0, rem, _ => rem
 | n + 1, rem, done =>
  match firstReady ms done (fun i => !kd i) rem with
  | some i => i :: canonGo kd ms n (rem.erase i) (done ||| 2 ^ i)
  | none =>
   match (match rem.find? (fun i => !kd i) with
    | some k => firstReady ms done (fun i => (ms.getD k 0).testBit i) rem
    | none => firstReady ms done (fun _ => true) rem) with
   | some i => i :: canonGo kd ms n (rem.erase i) (done ||| 2 ^ i)
   | none => rem

/-- The order in which such a region is taken. -/
def canon (S : Sys) (ops : Array Oper) : List Nat := canonGo (fun i => isA (kdAt S true ops i)) (masks ops) ops.size (List.range ops.size) 0

def allPairs (f : Nat → Nat → Bool) : List Nat → Bool
 | [] => true
 | i :: l => l.all (f i) && allPairs f l

def isAppend : Op → Bool
 | .call { callee := .builtin .append, args := _, argTypes := _ } => true
 | _ => false
/-- What makes an object without a look at memory. -/
def pureA (S : Sys) (rsv : Bool) (ops : Array Oper) (j : Nat) : Bool :=
 isA (kdAt S rsv ops j) && match ops[j]? with
  | some o => !isAppend o.op
  | none => false
def pairFree (S : Sys) (rsv : Bool) (ops : Array Oper) (ms : List Nat) (i j : Nat) : Bool :=
 !(ms.getD i 0).testBit j &&
 ((ms.getD j 0).testBit i ||
  ((pairOk (kdAt S rsv ops i) (kdAt S rsv ops j) || pureA S rsv ops j) &&
   match ops[i]?, ops[j]? with
   | some x, some y => x.apart ops y
   | _, _ => false))

def noDup : List Nat → Bool
 | [] => true
 | x :: xs => !(xs.contains x) && noDup xs

def orderOk (S : Sys) (rsv : Bool) (ops : Array Oper) (ord : List Nat) : Bool :=
 (ord.length == ops.size) && (noDup ord && ord.all (fun i => decide (i < ops.size))) && ((List.range ops.size).all fun i => ord.contains i) &&
 (ops.toList.zipIdx.all fun x => (binding x.1).all fun j => decide (j < x.2)) &&
 (ops.toList.all fun o => match o.op with | .select _ _ => false | _ => true) &&
 allPairs (pairFree S rsv ops (masks ops)) ord

/-! A load and a store of which neither need stand ahead: free where they go to two objects. -/
def loadAddr : Op → Option Tmp
 | .load _ (.tmp t) => some t
 | _ => none
def storeAddr : Op → Option Tmp
 | .store _ (.tmp t) _ => some t
 | _ => none
/-- All that writes this slot stands ahead. -/
def fixedSlot (ops : Array Oper) (ms : List Nat) (j : Nat) (t : Tmp) : Bool :=
 (List.range ops.size).all fun k =>
  match ops[k]? with
  | some o => o.dst != some t || (k != j && (ms.getD j 0).testBit k)
  | none => true
def sPair (ops : Array Oper) (ms : List Nat) (j i : Nat) : Option (Tmp × Tmp) :=
 match (ops[j]?).bind (fun o => loadAddr o.op), (ops[i]?).bind (fun o => storeAddr o.op) with
 | some a, some b => if fixedSlot ops ms j a && fixedSlot ops ms i b then some (a, b) else none
 | _, _ => none
def pairFreeS (S : Sys) (ops : Array Oper) (ms : List Nat) (i j : Nat) : Bool :=
 pairFree S false ops ms i j ||
 (!(ms.getD i 0).testBit j && (sPair ops ms i j).isSome &&
  match ops[i]?, ops[j]? with
  | some x, some y => x.apart ops y
  | _, _ => false)
def orderOkS (S : Sys) (ops : Array Oper) : Bool :=
 (ops.toList.zipIdx.all fun x => (binding x.1).all fun j => decide (j < x.2)) &&
 (ops.toList.all fun o => match o.op with | .select _ _ => false | _ => true) &&
 allPairs (pairFreeS S ops (masks ops)) (List.range ops.size)
def sRow (ops : Array Oper) (ms : List Nat) (j : Nat) : List Nat → List (Tmp × Tmp)
 | [] => []
 | i :: l => match sPair ops ms j i with
  | some p => p :: sRow ops ms j l
  | none => sRow ops ms j l
def sRows (ops : Array Oper) (ms : List Nat) : List Nat → List (Tmp × Tmp)
 | [] => []
 | j :: l => sRow ops ms j l ++ sRows ops ms l
/-- The loads' and the stores' addresses. -/
def sList (ops : Array Oper) : List (Tmp × Tmp) := sRows ops (masks ops) (List.range ops.size)
def ptrNe : Value → Value → Bool
 | .pointer (some ⟨a, _, some _⟩), .pointer (some ⟨b, _, some _⟩) => decide (a ≠ b)
 | _, _ => false
def farS (l : List (Tmp × Tmp)) (fr : Frame) : Bool := l.all fun p => ptrNe (fr p.1) (fr p.2)

/-- One name at a value's head for another one. -/
def renTop (a b : Nat) : Value → Value
 | .pointer (some ⟨id, off, s⟩) => .pointer (some ⟨if id = a then b else id, off, s⟩)
 | .slice (some ⟨id, off, some L⟩) n c => .slice (some ⟨if id = a then b else id, off, some L⟩) n c
 | .map (some id) => .map (some (if id = a then b else id))
 | v => v

/-- What is appended to is nil or empty. -/
def freshBase (fr : Frame) : Op → Bool
 | .call { callee := .builtin .append, args := args, argTypes := _ } =>
  match args.toList.map (aeval fr) with
  | .slice none 0 0 :: _ => true
  | .slice (some ⟨0, 0, none⟩) 0 0 :: _ => true
  | _ => false
 | _ => true

/-- A new object goes to its place. -/
def aopA (S : Sys) (hid : Nat) (o : Op) (fr : Frame) (H : AHeap) : Option (Value × AHeap) :=
 if freshBase fr o then
  (aop S o fr H).bind fun r =>
   match r.2[H.length]?, H[hid]? with
   | some obj, some .hole => some (renTop H.length hid r.1, H.set hid obj)
   | none, _ => some r
   | _, _ => none
 else none

def rankA (S : Sys) (ops : Array Oper) (i : Nat) : Nat := ((List.range i).filter fun j => isA (kdAt S true ops j)).length

def runnerI (S : Sys) (rsv : Bool) (ops : Array Oper) (base : Nat) (i : Nat) : Op → Frame → AHeap → Option (Value × AHeap) :=
 if rsv && isA (kdAt S true ops i) then aopA S (base + rankA S ops i) else aop S

def stepI {β : Type} (S : Sys) (rsv : Bool) (ops : Array Oper) (base : Nat) (i : Nat) (fr : Frame) (H : AHeap) (k : Frame → AHeap → Option β) : Option β :=
 match ops[i]? with
 | some o => stepWith (runnerI S rsv ops base i) S.nt ops o fr H k
 | none => none

def runI {β : Type} (S : Sys) (rsv : Bool) (ops : Array Oper) (base : Nat) : List Nat → Frame → AHeap → (Frame → AHeap → Option β) → Option β
 | [], fr, H, k => k fr H
 | i :: l, fr, H, k => stepI S rsv ops base i fr H fun fr H => runI S rsv ops base l fr H k

def drawn (S : Sys) : Sys := { S with room := false }

def holes : Nat → AHeap
 | 0 => []
 | n + 1 => .hole :: holes n

def drawFar {β : Type} (S : Sys) (ops : Array Oper) (fr : Frame) (H : AHeap) (k : Frame → AHeap → Option β) : Option β :=
 (runI S false ops 0 (List.range ops.size) fr H fun fr H => some (fr, H)).bind fun r => if farS (sList ops) r.1 then k r.1 r.2 else none
def drawRun {β : Type} (S : Sys) (ops : Array Oper) (fr : Frame) (H : AHeap) (k : Frame → AHeap → Option β) : Option β :=
 if orderOk S false ops (List.range ops.size) then runI S false ops 0 (List.range ops.size) fr H k
 else if orderOk (drawn S) false ops (List.range ops.size) then runI (drawn S) false ops 0 (List.range ops.size) fr H k
 else if orderOk (drawn S) true ops (canon (drawn S) ops) then runI (drawn S) true ops H.length (canon (drawn S) ops) fr (H ++ holes (rankA (drawn S) ops ops.size)) k
 else if orderOkS (drawn S) ops then drawFar (drawn S) ops fr H k
 else none

def exec (S : Sys) : ACode → (β : Type) → Frame → AHeap → (Ex → Frame → AHeap → Option β) → Option β
 | .skip, _, fr, H, k => k .normal fr H
 | .region _ ops draw, _, fr, H, k => if draw then drawRun S ops fr H fun fr H => k .normal fr H else runOps S ops ops.toList fr H fun fr H => k .normal fr H
 | .seq a b, β, fr, H, k => exec S a β fr H fun e fr H =>
   match e with
   | .normal => exec S b β fr H k
   | .exit n => k (.exit n) fr H
   | .ret => k .ret fr H
 | .cond c a b lv, _, fr, H, k => onBool (aeval fr c) fun t =>
   (if t then exec S a LO fr H (fun e fr H => some (e, pack lv fr, H)) else exec S b LO fr H (fun e fr H => some (e, pack lv fr, H))).bind
    fun r => k r.1 (slotsOf lv r.2.1) r.2.2
 | .block id b lv, _, fr, H, k =>
   (exec S b LO fr H (fun e fr H => some (inBlock id e, pack lv fr, H))).bind fun r => k r.1 (slotsOf lv r.2.1) r.2.2
 | .loop b lv lo, _, fr, H, k =>
   (S.lp (fun s => exec S b (LS ⊕ LO) (slotsOf lv s.1) s.2 fun e fr' H' =>
    match e with
    | .normal => some (.inl (pack lv fr', H'))
    | .exit n => some (.inr (.exit n, pack lo fr', H'))
    | .ret => some (.inr (.ret, pack lo fr', H'))) (pack lv fr, H)).bind
    fun r => k r.1 (slotsOf lo r.2.1) r.2.2
 | .exit n, _, fr, H, k => k (.exit n) fr H
 | .scope b, β, fr, H, k => exec S b β fr H k
 | .label _, _, fr, H, k => k .normal fr H
 | .ret, _, fr, H, k => k .ret fr H
 | .other _, _, _, _, _ => none

/-! ### Functions -/
structure AFunc where
 nt : Nat
 results : List ResultVar
 body : ACode
 muts : Bool
 memo : Option Value := none

def aresult (P : Program) (fr : Frame) (H : AHeap) : ResultVar → Option Value
 | .tmp t => some (fr t)
 | .cell a t => aload P t (fr a) H

def aresults (P : Program) (fr : Frame) (H : AHeap) : List ResultVar → Option (List Value)
 | [] => some []
 | r :: rs => (aresult P fr H r).bind fun v => (aresults P fr H rs).map fun vs => v :: vs

def tupled : List Value → Value
 | [v] => v
 | vs => .tuple vs.toArray

/-- What an answer is kept of: the objects that it names, if these name no others. -/
def keep1 (m : Nat) (H : AHeap) (v : Value) (acc : List AObj) : Option (Value × List AObj) :=
 match v with
 | .slice (some ⟨id, off, some L⟩) n c =>
  if id < m then none
  else
   match H[id]? with
   | some (.cells cs e wr md) => if cs.all plain0 ∧ L = cs.length then some (.slice (some ⟨m + acc.length, off, some L⟩) n c, acc ++ [.cells cs e wr md]) else none
   | _ => none
 | .slice (some ⟨_, _, none⟩) 0 0 => some (v, acc)
 | v => if plain1 v then some (v, acc) else none

def keepAll (m : Nat) (H : AHeap) : List Value → List AObj → Option (List Value × List AObj)
 | [], acc => some ([], acc)
 | v :: vs, acc => (keep1 m H v acc).bind fun r => (keepAll m H vs r.2).map fun q => (r.1 :: q.1, q.2)

def sliceIds : List Value → List Nat
 | [] => []
 | .slice (some ⟨id, _, some _⟩) _ _ :: vs => id :: sliceIds vs
 | _ :: vs => sliceIds vs

def gc (H : AHeap) (vs : List Value) (H' : AHeap) : Value × AHeap :=
 if noDup (sliceIds vs) then
  match keepAll H.length H' vs [] with
  | some r => (tupled r.1, if r.2.isEmpty then H else H ++ r.2)
  | none => (tupled vs, H')
 else (tupled vs, H')

theorem gcHeap (H l : AHeap) : (if l.isEmpty = true then H else H ++ l) = H ++ l := by
 cases l <;> simp

structure Cfg where
 P : Program
 ext : FuncId → Option (List Value → Option Value)
 code : FuncId → Option AFunc

def mtOf (C : Cfg) : FuncId → Bool := fun g => ((C.code g).map (·.muts)).getD true

def callBody (C : Cfg) (cl : FuncId → List Value → Nat → AHeap → Option (Value × AHeap)) (lp : (LS → Option (LS ⊕ LO)) → LS → Option LO)
  (fn : AFunc) (args : List Value) (prot : Nat) (H : AHeap) : Option (Value × AHeap) :=
 if args.length ≤ fn.nt then
  (exec { P := C.P, ext := C.ext, cl := cl, lp := lp, nt := fn.nt, prot := if fn.muts then prot else H.length, mt := mtOf C, room := true } fn.body (List Value × AHeap) (fun t => args.getD t undef) H
   (fun e fr H' =>
    match e with
    | .exit _ => none
    | _ => (aresults C.P fr H' fn.results).map fun vs => (vs, H'))).map
   fun r => if fn.muts then (tupled r.1, r.2) else gc H r.1 r.2
 else none

/-- A function of which the answer is known is not run. -/
def callWith (C : Cfg) (cl : FuncId → List Value → Nat → AHeap → Option (Value × AHeap)) (lp : (LS → Option (LS ⊕ LO)) → LS → Option LO)
  (f : FuncId) (args : List Value) (prot : Nat) (H : AHeap) : Option (Value × AHeap) :=
 match C.code f with
 | none => none
 | some fn =>
  match fn.memo with
  | some v => if args.isEmpty then some (v, H) else none
  | none => callBody C cl lp fn args prot H

def loopN : Nat → (LS → Option (LS ⊕ LO)) → LS → Option LO
 | 0, _, _ => none
 | n + 1, body, s => (body s).bind fun r =>
  match r with
  | .inl s' => loopN n body s'
  | .inr o => some o

def callN (C : Cfg) (n : Nat) : Nat → FuncId → List Value → Nat → AHeap → Option (Value × AHeap)
 | 0 => fun _ _ _ _ => none
 | d + 1 => callWith C (callN C n d) (loopN n)

end Go.Proofs.Ythjkodbinkiifaa.Am
namespace Go.Proofs.Ythjkodbinkiifaa.Am
open Go

abbrev R3 := Ex × Frame × AHeap
def ret3 : Ex → Frame → AHeap → Option R3 := fun e fr H => some (e, fr, H)
def ret2 : Frame → AHeap → Option (Frame × AHeap) := fun fr H => some (fr, H)

theorem onBool_bind {α β : Type} (v : Value) (k : Bool → Option α) (g : α → Option β) : (onBool v k).bind g = onBool v fun b => (k b).bind g := by
 unfold onBool; split <;> rfl
theorem onGuard_bind {α β : Type} (v : Value) (w : Bool) (k : Bool → Option α) (g : α → Option β) : (onGuard v w k).bind g = onGuard v w fun b => (k b).bind g := by
 unfold onGuard; split
 ·rfl
 ·split <;> rfl
 ·rfl

theorem stepWith_bind {β : Type} (f : Op → Frame → AHeap → Option (Value × AHeap)) (nt : Nat) (ops : Array Oper) (o : Oper) (fr : Frame) (H : AHeap) (k : Frame → AHeap → Option β) :
  stepWith f nt ops o fr H k = (stepWith f nt ops o fr H ret2).bind fun r => k r.1 r.2 := by
 unfold stepWith
 split
 ·simp [Option.bind_assoc, ret2]
 ·simp [onGuard_bind, Option.bind_assoc, ret2]

theorem stepOp_bind {β : Type} (S : Sys) (ops : Array Oper) (o : Oper) (fr : Frame) (H : AHeap) (k : Frame → AHeap → Option β) :
  stepOp S ops o fr H k = (stepOp S ops o fr H ret2).bind fun r => k r.1 r.2 := stepWith_bind _ _ _ _ _ _ _

theorem runOps_bind {β : Type} (S : Sys) (ops : Array Oper) : ∀ (l : List Oper) (fr : Frame) (H : AHeap) (k : Frame → AHeap → Option β),
  runOps S ops l fr H k = (runOps S ops l fr H ret2).bind fun r => k r.1 r.2
 | [], fr, H, k => rfl
 | o :: rest, fr, H, k => by
  simp only [runOps]
  rw [stepOp_bind, stepOp_bind S ops o fr H fun fr H => runOps S ops rest fr H ret2]
  simp only [Option.bind_assoc]
  congr 1
  funext r
  exact runOps_bind S ops rest r.1 r.2 k

theorem stepI_bind {β : Type} (S : Sys) (rsv : Bool) (ops : Array Oper) (base i : Nat) (fr : Frame) (H : AHeap) (k : Frame → AHeap → Option β) :
  stepI S rsv ops base i fr H k = (stepI S rsv ops base i fr H ret2).bind fun r => k r.1 r.2 := by
 unfold stepI
 split
 ·exact stepWith_bind _ _ _ _ _ _ _
 ·rfl

theorem runI_bind {β : Type} (S : Sys) (rsv : Bool) (ops : Array Oper) (base : Nat) : ∀ (l : List Nat) (fr : Frame) (H : AHeap) (k : Frame → AHeap → Option β),
  runI S rsv ops base l fr H k = (runI S rsv ops base l fr H ret2).bind fun r => k r.1 r.2
 | [], fr, H, k => rfl
 | i :: rest, fr, H, k => by
  simp only [runI]
  rw [stepI_bind, stepI_bind S rsv ops base i fr H fun fr H => runI S rsv ops base rest fr H ret2]
  simp only [Option.bind_assoc]
  congr 1
  funext r
  exact runI_bind S rsv ops base rest r.1 r.2 k

theorem drawRun_bind {β : Type} (S : Sys) (ops : Array Oper) (fr : Frame) (H : AHeap) (k : Frame → AHeap → Option β) :
  drawRun S ops fr H k = (drawRun S ops fr H ret2).bind fun r => k r.1 r.2 := by
 unfold drawRun
 split
 ·exact runI_bind _ _ _ _ _ _ _ _
 ·split
  ·exact runI_bind _ _ _ _ _ _ _ _
  ·split
   ·exact runI_bind _ _ _ _ _ _ _ _
   ·split
    ·unfold drawFar
     rw [Option.bind_assoc]
     congr 1
     funext r
     split <;> rfl
    ·rfl

theorem exec_bind (S : Sys) : ∀ (c : ACode) (β : Type) (fr : Frame) (H : AHeap) (k : Ex → Frame → AHeap → Option β),
  exec S c β fr H k = (exec S c R3 fr H ret3).bind fun r => k r.1 r.2.1 r.2.2 := by
 intro c
 induction c with
 | skip => intros; rfl
 | region id ops draw =>
  intro β fr H k
  simp only [exec]
  split
  ·rw [drawRun_bind, drawRun_bind S ops fr H fun fr H => ret3 .normal fr H]
   simp [Option.bind_assoc, ret3]
  ·rw [runOps_bind, runOps_bind S ops ops.toList fr H fun fr H => ret3 .normal fr H]
   simp [Option.bind_assoc, ret3]
 | seq a b iha ihb =>
  intro β fr H k
  simp only [exec]
  refine (iha β fr H _).trans ?_
  refine Eq.trans ?_ (congrArg (Option.bind · _) (iha R3 fr H _).symm)
  simp only [Option.bind_assoc]
  congr 1
  funext r
  obtain ⟨e, fr', H'⟩ := r
  cases e with
  | normal => simp only []; rw [ihb]
  | exit n => simp [ret3]
  | ret => simp [ret3]
 | cond c a b lv iha ihb =>
  intro β fr H k
  simp only [exec, onBool_bind, Option.bind_assoc]
  congr 1
 | block id b lv ih =>
  intro β fr H k
  simp only [exec, Option.bind_assoc]
  congr 1
 | loop b lv lo ih =>
  intro β fr H k
  simp only [exec, Option.bind_assoc]
  congr 1
 | exit n => intros; rfl
 | scope b ih => intro β fr H k; simp only [exec]; exact ih β fr H k
 | label l => intros; rfl
 | ret => intros; rfl
 | other c => intros; rfl

/-! ### Slots that are not written stay -/
theorem put_keep {nt : Nat} {fr : Frame} {d : Option Tmp} {v : Value} {t : Nat} (h : d ≠ some t) : put nt fr d v t = fr t := by
 unfold put
 split
 ·rename_i d
  have hd : t ≠ d := fun e => h (by rw [e])
  split
  ·simp [upd, hd]
  ·rfl
 ·rfl

theorem bind_some' {α β : Type} {x : Option α} {f : α → Option β} {b : β} (h : x.bind f = some b) : ∃ a, x = some a ∧ f a = some b := Option.bind_eq_some_iff.1 h
theorem map_some' {α β : Type} {x : Option α} {f : α → β} {b : β} (h : x.map f = some b) : ∃ a, x = some a ∧ f a = b := by
 cases x with
 | none => simp at h
 | some a => exact ⟨a, rfl, by simpa using h⟩

theorem onGuard_some {β : Type} {v : Value} {w : Bool} {k : Bool → Option β} {r : β} (h : onGuard v w k = some r) :
  (∃ b, v = .bool b ∧ k (b == w) = some r) ∨ (∃ x, v = .tuple #[x] ∧ k false = some r) := by
 unfold onGuard at h
 split at h
 ·exact .inl ⟨_, rfl, h⟩
 ·rename_i vs
  split at h
  ·rename_i hl
   obtain ⟨l⟩ := vs
   match l, hl with
   | [x], _ => exact .inr ⟨x, rfl, h⟩
  ·cases h
 ·cases h

theorem stepWith_some {f : Op → Frame → AHeap → Option (Value × AHeap)} {nt : Nat} {ops : Array Oper} {o : Oper} {fr fr' : Frame} {H H' : AHeap} (h : stepWith f nt ops o fr H ret2 = some (fr', H')) :
  ∃ v, fr' = put nt fr o.dst v ∧
   ((o.guard = none ∧ f o.op fr H = some (v, H')) ∨
    (∃ j want b, o.guard = some (j, want) ∧ guardVal ops fr j = .bool b ∧ b = want ∧ f o.op fr H = some (v, H')) ∨
    (∃ j want, o.guard = some (j, want) ∧ (guardVal ops fr j = .bool (!want) ∨ ∃ x, guardVal ops fr j = .tuple #[x]) ∧ v = skipV ∧ H' = H)) := by
 unfold stepWith at h
 split at h
 ·rename_i hg
  obtain ⟨⟨v, H1⟩, h1, h2⟩ := bind_some' h
  simp only [ret2, Option.some.injEq, Prod.mk.injEq] at h2
  obtain ⟨rfl, rfl⟩ := h2
  exact ⟨v, rfl, .inl ⟨hg, h1⟩⟩
 ·rename_i j want hg
  rcases onGuard_some h with ⟨b, hb, h1⟩ | ⟨x, hx, h1⟩
  ·obtain ⟨⟨v, H1⟩, h3, h2⟩ := bind_some' h1
   simp only [ret2, Option.some.injEq, Prod.mk.injEq] at h2
   obtain ⟨rfl, rfl⟩ := h2
   refine ⟨v, rfl, .inr ?_⟩
   by_cases e : b = want
   ·subst e
    simp at h3
    exact .inl ⟨j, b, b, hg, hb, rfl, h3⟩
   ·have : (b == want) = false := by simp [e]
    simp [this] at h3
    obtain ⟨rfl, rfl⟩ := h3
    refine .inr ⟨j, want, hg, .inl ?_, rfl, rfl⟩
    rw [hb]
    cases b <;> cases want <;> simp_all
  ·simp at h1
   obtain ⟨rfl, rfl⟩ : put nt fr o.dst skipV = fr' ∧ H = H' := by simpa [ret2] using h1
   exact ⟨skipV, rfl, .inr (.inr ⟨j, want, hg, .inr ⟨x, hx⟩, rfl, rfl⟩)⟩

theorem stepOp_some {S : Sys} {ops : Array Oper} {o : Oper} {fr fr' : Frame} {H H' : AHeap} (h : stepOp S ops o fr H ret2 = some (fr', H')) :
  ∃ v, fr' = put S.nt fr o.dst v ∧
   ((o.guard = none ∧ aop S o.op fr H = some (v, H')) ∨
    (∃ j want b, o.guard = some (j, want) ∧ guardVal ops fr j = .bool b ∧ b = want ∧ aop S o.op fr H = some (v, H')) ∨
    (∃ j want, o.guard = some (j, want) ∧ (guardVal ops fr j = .bool (!want) ∨ ∃ x, guardVal ops fr j = .tuple #[x]) ∧ v = skipV ∧ H' = H)) := stepWith_some h

theorem stepI_some {S : Sys} {rsv : Bool} {ops : Array Oper} {base i : Nat} {fr fr' : Frame} {H H' : AHeap} (h : stepI S rsv ops base i fr H ret2 = some (fr', H')) :
  ∃ o v, ops[i]? = some o ∧ fr' = put S.nt fr o.dst v ∧
   ((o.guard = none ∧ runnerI S rsv ops base i o.op fr H = some (v, H')) ∨
    (∃ j want b, o.guard = some (j, want) ∧ guardVal ops fr j = .bool b ∧ b = want ∧ runnerI S rsv ops base i o.op fr H = some (v, H')) ∨
    (∃ j want, o.guard = some (j, want) ∧ (guardVal ops fr j = .bool (!want) ∨ ∃ x, guardVal ops fr j = .tuple #[x]) ∧ v = skipV ∧ H' = H)) := by
 unfold stepI at h
 split at h
 ·rename_i o ho
  obtain ⟨v, h1, h2⟩ := stepWith_some h
  exact ⟨o, v, ho, h1, h2⟩
 ·cases h

theorem runI_cons {S : Sys} {rsv : Bool} {ops : Array Oper} {base i : Nat} {l : List Nat} {fr fr' : Frame} {H H' : AHeap} (h : runI S rsv ops base (i :: l) fr H ret2 = some (fr', H')) :
  ∃ fr1 H1, stepI S rsv ops base i fr H ret2 = some (fr1, H1) ∧ runI S rsv ops base l fr1 H1 ret2 = some (fr', H') := by
 simp only [runI] at h
 rw [stepI_bind] at h
 obtain ⟨⟨fr1, H1⟩, h1, h2⟩ := bind_some' h
 exact ⟨fr1, H1, h1, h2⟩

theorem drawFar_some {S : Sys} {ops : Array Oper} {fr fr' : Frame} {H H' : AHeap} (h : drawFar S ops fr H ret2 = some (fr', H')) : runI S false ops 0 (List.range ops.size) fr H ret2 = some (fr', H') ∧ farS (sList ops) fr' = true := by
 unfold drawFar at h
 obtain ⟨⟨f1, H1⟩, h1, h2⟩ := bind_some' h
 simp only at h2
 split at h2
 ·rename_i hc
  simp only [ret2, Option.some.injEq, Prod.mk.injEq] at h2
  obtain ⟨rfl, rfl⟩ := h2
  exact ⟨h1, hc⟩
 ·cases h2
theorem drawFar_mk {S : Sys} {ops : Array Oper} {fr fr' : Frame} {H H' : AHeap} (h : runI S false ops 0 (List.range ops.size) fr H ret2 = some (fr', H')) (hc : farS (sList ops) fr' = true) : drawFar S ops fr H ret2 = some (fr', H') := by
 unfold drawFar
 have h' : runI S false ops 0 (List.range ops.size) fr H (fun fr H => some (fr, H)) = some (fr', H') := h
 rw [h', Option.bind_some]
 simp only
 rw [if_pos hc]; rfl
theorem runOps_cons {S : Sys} {ops : Array Oper} {o : Oper} {l : List Oper} {fr fr' : Frame} {H H' : AHeap} (h : runOps S ops (o :: l) fr H ret2 = some (fr', H')) :
  ∃ fr1 H1, stepOp S ops o fr H ret2 = some (fr1, H1) ∧ runOps S ops l fr1 H1 ret2 = some (fr', H') := by
 simp only [runOps] at h
 rw [stepOp_bind] at h
 obtain ⟨⟨fr1, H1⟩, h1, h2⟩ := bind_some' h
 exact ⟨fr1, H1, h1, h2⟩

end Go.Proofs.Ythjkodbinkiifaa.Am
