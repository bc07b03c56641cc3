/- The clean machine, part 1: values without memory, an interpreter of translated code over them, and that it is right about the program; no program in sight. No condition. -/
import Derived.Calls
import Derived.Laws.Cells
import Derived.Laws.CopyRow
import Derived.Laws.Entries
import Derived.ChangeKeysEq
import Derived.Laws.Strings
import Derived.Laws.BytesString
import Derived.Laws.Slices
import Derived.Laws.Append
import Derived.Laws.StructEq
import Derived.Laws.Build
set_option linter.unusedSimpArgs false
set_option linter.unusedVariables false
/- The clean machine: data without memory, an interpreter of the translated code over it. No program in sight. -/
namespace Bz
open Go

/-- Data: what holds no reference to memory that may still change. -/
inductive D where
  | int (k : IntKind) (n : Int)
  | bool (b : Bool)
  | str (s : List UInt8)
  | vs (nl : Bool) (es : List (List D))
  | nilp | nilm | nilf | nili
  | ifc (t : Nat) (v : D)
  deriving Inhabited

/-- Data that is led to from one place alone, and may change there: a pointer to a struct, a slice of a row. -/
inductive O where
  | d (x : D)
  | own (cs : List O)
  /-- so many elements of a row -/
  | osl (sz len : Nat) (es : List (List O))
  deriving Inhabited

/-- What a slot may hold. -/
inductive AV where
  | undef
  | d (x : D)
  /-- in an object's cell: what is led to from here alone -/
  | ow (t : O)
  | os (l n off len : Nat)
  | pv (l j : Nat)
  | pa (l n i j : Nat)
  | vp (c : List D) (j : Nat)
  | map (l : Nat)
  | fn (f : Nat) (caps : List AV)
  | agg (cs : List AV)
  | tup (cs : List AV)
  /-- true or false: nobody knows -/
  | anyb
  deriving Inhabited

/-- kinds of what can be held against each other -/
inductive SK where
  | int (k : IntKind)
  | bool
  | str
  deriving DecidableEq, Inhabited

inductive NK where
  | p | s | m | f
  deriving DecidableEq, Inhabited

inductive LK where
  | str | sl | mp | cp
  deriving DecidableEq, Inhabited

inductive AObj where
  | var (cs : List AV)
  | arr (sz : Nat) (es : List (List D))
  | fz (sz : Nat) (es : List (List D))
  /-- a row whose elements may lead to something -/
  | oar (sz : Nat) (es : List (List AV))
  | mp (ag : Bool) (ks : List SK) (es : List (AV × AV))
  deriving Inhabited

abbrev Heap := List (Nat × AObj)

def hget : Heap → Nat → Option AObj
  | [], _ => none
  | (m, o) :: r, l => if l = m then some o else hget r l

def hset : Heap → Nat → AObj → Heap
  | [], l, o => [(l, o)]
  | (m, p) :: r, l, o => if l = m then (m, o) :: r else (m, p) :: hset r l o

def nth : List AV → Nat → AV
  | [], _ => .undef
  | a :: _, 0 => a
  | _ :: r, n + 1 => nth r n

inductive AOpd where
  | t (n : Nat)
  | c (v : AV)
  deriving Inhabited

def aev (E : List AV) : AOpd → AV
  | .t n => nth E n
  | .c v => v

inductive AOpOf (α : Type) where
  | mov (x : α)
  | pick (c a b : α)
  | box (sz : Nat) (x : α)
  | build (zero : List AV) (parts : List (Nat × Nat × α))
  | buildSl (sz : Nat) (zero : List D) (len : Nat) (parts : List (Nat × α))
  | load (sz : Nat) (ag : Bool) (x : α)
  | store (sz : Nat) (a v : α)
  | nilchk (x : α)
  | bin (op : BinOp) (x y : α)
  | binb (neg : Bool) (x y : α)
  | isnil (k : NK) (neg : Bool) (x : α)
  | eqagg (ks : List SK) (neg : Bool) (x y : α)
  | un (op : UnOp) (x : α)
  | toInt (k : IntKind) (x : α)
  | same (x : α)
  | toStr (x : α)
  | mkfn (f : Nat) (caps : List α)
  | mkmap (ag : Bool) (ks : List SK)
  | mksl (sz : Nat) (zero : List D) (len cap : α)
  | slstr (x : α) (lo hi : Option α)
  | slice (sz : Nat) (x : α) (lo hi mx : Option α)
  | faddr (off : Nat) (x : α)
  /-- an element's place in an array, an element of an array -/
  | iarr (n sz : Nat) (x i : α)
  | fidx (n sz : Nat) (ag : Bool) (x i : α)
  | field (off sz : Nat) (ag : Bool) (x : α)
  | iaddr (sz : Nat) (x i : α)
  | idx (x i : α)
  | lookup (ag : Bool) (ks : List SK) (zero : AV) (x k : α) (ok : Bool)
  | mapupd (ag : Bool) (ks : List SK) (m k v : α)
  | extract (x : α) (i : Nat)
  | call (f : α) (args : List α)
  | len (k : LK) (x : α)
  | append (sz : Nat) (x y : α)
  | appz (sz : Nat) (zero : List D) (x n : α)
  | copy (sz : Nat) (x y : α)
  | clear (zero : List D) (x : α)
  | delete (ag : Bool) (ks : List SK) (m k : α)
  | best (mx : Bool) (xs : List α)
  | mkif (t : Nat) (x : α)
  | bad

abbrev AOp := AOpOf AOpd

structure AOper where
  dst : Option Nat
  op : AOp
  guard : Option (Nat × Bool)
  bef : List Nat

/-- a place that holds a slice of the call's own, under a name of its own -/
inductive Pro where
  | slot (k p sz : Nat)
  | cell (l j p sz : Nat)
  /-- from here on it is only read -/
  | fslot (k : Nat)
  | fcell (l j : Nat)
  /-- a row whose elements may lead to something -/
  | oslot (k p sz : Nat)
  /-- what a cell leads to, is led to from there alone again -/
  | clc (l j : Nat)
  | cli (l base stride k : Nat)
  /-- all elements of a row that a cell, or a slot, leads to -/
  | clrow (l j : Nat)
  | clrows (k : Nat)

/-- at a join or a loop's head: the slots that are wanted still; how slices are named -/
structure Mask where
  keep : List Nat
  pro : List Pro

inductive ACode where
  | skip
  | region (id : Nat) (ops : List AOper) (draw : Bool)
  | seq (a b : ACode)
  | cond (c : AOpd) (thn els : ACode)
  /-- behind 'pre': if c, 'thn', which leaves; else on with 'rest' -/
  | guard (pre : ACode) (c : AOpd) (thn rest : ACode)
  | block (id : Nat) (body : ACode)
  | loop (mask : Mask) (body : ACode)
  | mask (m : Mask) (body : ACode)
  | exit (id : Nat)
  | ret
  | goto (l : Nat)
  /-- 'pre', then 'body', again from its start at each goto l -/
  | scope (l : Nat) (m : Mask) (pre body : ACode)
  | bad

inductive ARes where
  | tmp (t : Nat)
  | cell (a : Nat) (sz : Nat) (ag : Bool)
  /-- no result: what is put back at the end -/
  | fin (q : Pro)
  deriving Inhabited

structure AFunc where
  ntmps : Nat
  results : List ARes
  body : ACode

def cellsOf : AV → List AV
  | .agg cs => cs
  | v => [v]

def flatA : AV → Bool
  | .d _ | .os .. | .pv .. | .pa .. | .vp .. | .map _ | .fn .. => true
  | _ => false

def solid (v : AV) : Bool := (cellsOf v).all flatA

def mkVal (ag : Bool) (cs : List AV) : Option AV :=
  if ag then some (.agg cs) else match cs with
    | [v] => some v
    | _ => none

/-- How long an array may become. -/
def LIM : Nat := 274877906944

/-- a slice as one that cannot be appended to -/
def norm : D → D
  | .vs _ es => .vs false es
  | x => x

/-- a value as data, slices by their content -/
def vwD (H : Heap) : AV → Option D
  | .d x => some (norm x)
  | .os l n off len => match hget H l with
    | some (.arr _ es) => if es.length = n ∧ off + len ≤ n then some (.vs false ((es.drop off).take len)) else none
    | some (.fz _ es) => if es.length = n ∧ off + len ≤ n then some (.vs false ((es.drop off).take len)) else none
    | _ => none
  | _ => none

def normA : AV → AV
  | .d x => .d (norm x)
  | .agg cs => .agg (cs.map fun | .d x => .d (norm x) | v => v)
  | v => v

def vwDs (H : Heap) : List AV → Option (List D)
  | [] => some []
  | v :: r => match vwD H v with
    | none => none
    | some x => match vwDs H r with
      | none => none
      | some xs => some (x :: xs)

/-- slices by content, in a value or in a struct value; the rest stays -/
def vw (H : Heap) : AV → Option AV
  | .os l n off len => (vwD H (.os l n off len)).map .d
  | .agg cs => (vwDs H cs).map fun ds => .agg (ds.map .d)
  | .d x => some (.d (norm x))
  | v => some v

def vws (H : Heap) : List AV → Option (List AV)
  | [] => some []
  | v :: r => match vw H v with
    | none => none
    | some x => match vws H r with
      | none => none
      | some xs => some (x :: xs)

/-- the arrays that a value leads to directly -/
def arrsOf : AV → List Nat
  | .os l _ _ _ => [l]
  | .agg cs => cs.flatMap fun | .os l _ _ _ => [l] | _ => []
  | _ => []

mutual
def refs : AV → List Nat
  | .os l _ _ _ => [l]
  | .pv l _ => [l]
  | .pa l _ _ _ => [l]
  | .map l => [l]
  | .fn _ caps => refsL caps
  | .agg cs => refsL cs
  | .tup cs => refsL cs
  | _ => []
def refsL : List AV → List Nat
  | [] => []
  | v :: r => refs v ++ refsL r
end

def refsLL : List (List AV) → List Nat
  | [] => []
  | c :: r => refsL c ++ refsLL r

def refsO : AObj → List Nat
  | .var cs => refsL cs
  | .oar _ es => refsLL es
  | .mp _ _ _ => []
  | .arr _ _ => []
  | .fz _ _ => []

mutual
def ren (g : Nat → Nat) : AV → AV
  | .os l n off len => .os (g l) n off len
  | .pv l j => .pv (g l) j
  | .pa l n i j => .pa (g l) n i j
  | .map l => .map (g l)
  | .fn f caps => .fn f (renL g caps)
  | .agg cs => .agg (renL g cs)
  | .tup cs => .tup (renL g cs)
  | .undef => .undef
  | .d x => .d x
  | .vp c j => .vp c j
  | .anyb => .anyb
  | .ow t => .ow t
def renL (g : Nat → Nat) : List AV → List AV
  | [] => []
  | v :: r => ren g v :: renL g r
end

def renO (g : Nat → Nat) : AObj → AObj
  | .var cs => .var (renL g cs)
  | .oar sz es => .oar sz (es.map (renL g))
  | o => o

/-- what is reached from some names, in the order met -/
def reach (H : Heap) : Nat → List Nat → List Nat → List Nat
  | 0, _, seen => seen
  | _ + 1, [], seen => seen
  | k + 1, l :: r, seen =>
    if seen.contains l then reach H k r seen
    else match hget H l with
      | none => reach H k r (seen ++ [l])
      | some o => reach H k (refsO o ++ r) (seen ++ [l])

def RF : Nat := 64

def noRef (l : Nat) (E : List AV) (H : Heap) : Bool :=
  !(refsL E).contains l && H.all fun (m, o) => m == l || !(refsO o).contains l

def strEq (a b : List UInt8) : Bool := a == b

def scalEq : D → D → Option Bool
  | .int k a, .int k' b => if k = k' then some (a == b) else none
  | .bool a, .bool b => some (a == b)
  | .str a, .str b => some (a == b)
  | _, _ => none

def aggEq : List AV → List AV → Option Bool
  | [], [] => some true
  | .d x :: r, .d y :: s => match scalEq x y with
    | some true => aggEq r s
    | some false => (aggEq r s).map fun _ => false
    | none => none
  | _, _ => none

def avEq : AV → AV → Option Bool
  | .d x, .d y => scalEq x y
  | .agg a, .agg b => aggEq a b
  | _, _ => none

def isNil : NK → AV → Option Bool
  | .s, .d (.vs _ (_ :: _)) => some false
  | .s, .os _ _ _ len => if len = 0 then none else some false
  | .p, .d .nilp => some true
  | .p, .pv .. => some false
  | .p, .pa .. => some false
  | .p, .vp .. => some false
  | .m, .d .nilm => some true
  | .m, .map _ => some false
  | .f, .d .nilf => some true
  | .f, .fn .. => some false
  | _, _ => none

/-- is it nil? some none: nobody knows -/
def isNilU (k : NK) (x : AV) : Option (Option Bool) := match isNil k x with
  | some b => some (some b)
  | none => match k, x with
    | .s, .d (.vs _ _) => some none
    | .s, .os _ _ _ _ => some none
    | _, _ => none

/-- does it still lead to what it led to? -/
def liveA (H : Heap) : AV → Bool
  | .os l n _ _ => match hget H l with
    | some (.arr _ es) | some (.fz _ es) => es.length == n
    | some (.oar _ es) => es.length == n
    | _ => false
  | .pa l n _ _ => match hget H l with
    | some (.arr _ es) | some (.fz _ es) => es.length == n
    | some (.oar _ es) => es.length == n
    | _ => false
  | .pv l _ => match hget H l with
    | some (.var _) => true
    | _ => false
  | .map l => match hget H l with
    | some (.mp _ _ _) => true
    | _ => false
  | _ => true

def skOK : SK → D → Bool
  | .int k, .int k' _ => k == k'
  | .bool, .bool _ => true
  | .str, .str _ => true
  | _, _ => false

def cellsOK : List SK → List AV → Bool
  | [], [] => true
  | s :: r, .d x :: q => skOK s x && cellsOK r q
  | _, _ => false

def keyOK (ag : Bool) (ks : List SK) (v : AV) : Bool :=
  match ag, v with
  | true, .agg cs => cellsOK ks cs
  | false, .d x => (match ks with | [s] => skOK s x | _ => false)
  | _, _ => false

def boolV (b : Bool) : AV := .d (.bool b)
def intV (n : Int) : AV := .d (.int .i64 n)

def intBin (op : BinOp) (k : IntKind) (a b : Int) : Option AV :=
  match op with
  | .add => some (.d (.int k (k.wrap (a + b))))
  | .sub => some (.d (.int k (k.wrap (a - b))))
  | .mul => some (.d (.int k (k.wrap (a * b))))
  | .quo => if b = 0 then none else some (.d (.int k (k.wrap (a.tdiv b))))
  | .rem => if b = 0 then none else some (.d (.int k (a.tmod b)))
  | .and => some (.d (.int k (k.wrap (BitVec.ofInt k.bits a &&& BitVec.ofInt k.bits b).toNat)))
  | .or => some (.d (.int k (k.wrap (BitVec.ofInt k.bits a ||| BitVec.ofInt k.bits b).toNat)))
  | .xor => some (.d (.int k (k.wrap (BitVec.ofInt k.bits a ^^^ BitVec.ofInt k.bits b).toNat)))
  | .andNot => some (.d (.int k (k.wrap (BitVec.ofInt k.bits a &&& ~~~BitVec.ofInt k.bits b).toNat)))
  | .eql => some (boolV (a == b))
  | .neq => some (boolV (a != b))
  | .lss => some (boolV (decide (a < b)))
  | .leq => some (boolV (decide (a ≤ b)))
  | .gtr => some (boolV (decide (a > b)))
  | .geq => some (boolV (decide (a ≥ b)))
  | _ => none

def strBin (op : BinOp) (a b : List UInt8) : Option AV :=
  match op with
  | .add => if a.length + b.length ≤ LIM then some (.d (.str (a ++ b))) else none
  | .eql => some (boolV (a == b))
  | .neq => some (boolV (!(a == b)))
  | .lss => some (boolV (Go.Op.bytesLess a b))
  | .leq => some (boolV (Go.Op.bytesLess a b || a == b))
  | .gtr => some (boolV (!(Go.Op.bytesLess a b || a == b)))
  | .geq => some (boolV (!(Go.Op.bytesLess a b)))
  | _ => none

def abin (op : BinOp) (x y : AV) : Option AV :=
  match x, y with
  | .d (.int k a), .d (.int k' b) =>
    match op with
    | .shl => if b < 0 then none else some (.d (.int k (k.wrap (a * 2 ^ (min b.toNat k.bits)))))
    | .shr => if b < 0 then none else some (.d (.int k (a.fdiv (2 ^ (min b.toNat k.bits)))))
    | _ => if k = k' then intBin op k a b else none
  | .d (.str a), .d (.str b) => strBin op a b
  | _, _ => none

def abinb (neg : Bool) (x y : AV) : Option AV :=
  match x, y with
  | .d (.bool a), .d (.bool b) => some (boolV (if neg then !(a == b) else (a == b)))
  | _, _ => none

def aeqagg (ks : List SK) (neg : Bool) (x y : AV) : Option AV :=
  match x, y with
  | .agg a, .agg b => if cellsOK ks a && cellsOK ks b then (aggEq a b).map fun r => boolV (if neg then !r else r) else none
  | _, _ => none

def aun (op : UnOp) (x : AV) : Option AV :=
  match op, x with
  | .neg, .d (.int k n) => some (.d (.int k (k.wrap (0 - n))))
  | .not, .d (.bool b) => some (boolV !b)
  | .xor, .d (.int k n) => some (.d (.int k (k.wrap (BitVec.ofInt k.bits (if k.signed then -1 else k.max) ^^^ BitVec.ofInt k.bits n).toNat)))
  | _, _ => none

/-- cells [j, j + sz) -/
def cut {α : Type} (c : List α) (j sz : Nat) : Option (List α) :=
  if j + sz ≤ c.length then some ((c.drop j).take sz) else none

def put {α : Type} (c : List α) (j : Nat) (v : List α) : List α := c.take j ++ v ++ c.drop (j + v.length)

def aload (H : Heap) (sz : Nat) (ag : Bool) : AV → Option AV
  | .pv l j => match hget H l with
    | some (.var cs) => (cut cs j sz).bind (mkVal ag)
    | _ => none
  | .pa l n i j => match hget H l with
    | some (.arr _ es) => if es.length = n then (es[i]?).bind fun c => (cut c j sz).bind fun ds => mkVal ag (ds.map .d) else none
    | some (.fz _ es) => if es.length = n then (es[i]?).bind fun c => (cut c j sz).bind fun ds => mkVal ag (ds.map .d) else none
    | some (.oar _ es) => if es.length = n then (es[i]?).bind fun c => (cut c j sz).bind (mkVal ag) else none
    | _ => none
  | .vp c j => (cut c j sz).bind fun ds => mkVal ag (ds.map .d)
  | _ => none

abbrev Upd := List (Nat × AObj)

def applyU (H : Heap) (u : Upd) : Heap := u.foldl (fun H x => hset H x.1 x.2) H

/-- freezing the arrays that some values lead to -/
def frz (H : Heap) (ls : List Nat) : Upd := ls.filterMap fun l => match hget H l with
  | some (.arr sz es) => some (l, .fz sz es)
  | _ => none

def astore (H : Heap) (sz : Nat) (a v : AV) : Option Upd :=
  let cs := cellsOf v
  if cs.length = sz then
    match a with
    | .pv l j => match hget H l with
      | some (.var c) => if j + sz ≤ c.length ∧ solid v then some [(l, .var (put c j cs))] else none
      | _ => none
    | .pa l n i j => match hget H l with
      | some (.arr z es) =>
        if es.length = n ∧ ¬ (cs.flatMap arrsOf).contains l then
          match es[i]?, vwDs H cs with
          | some c, some ds => if j + sz ≤ c.length then some (frz H (cs.flatMap arrsOf) ++ [(l, .arr z (es.set i (put c j ds)))]) else none
          | _, _ => none
        else none
      | some (.oar z es) =>
        if es.length = n ∧ solid v then
          match es[i]? with
          | some c => if j + sz ≤ c.length then some [(l, .oar z (es.set i (put c j cs)))] else none
          | none => none
        else none
      | _ => none
    | _ => none
  else none

def fillCells (z : List AV) : List (Nat × Nat × AV) → Option (List AV)
  | [] => some z
  | (off, sz, v) :: r =>
    if (cellsOf v).length = sz ∧ off + sz ≤ z.length ∧ solid v then fillCells (put z off (cellsOf v)) r else none

def fillRow (H : Heap) (sz : Nat) (es : List (List D)) : List (Nat × AV) → Option (List (List D))
  | [] => some es
  | (i, v) :: r =>
    match vwDs H (cellsOf v) with
    | some ds => if ds.length = sz ∧ i < es.length then fillRow H sz (es.set i ds) r else none
    | none => none

def fillRowO (sz : Nat) (es : List (List AV)) : List (Nat × AV) → Option (List (List AV))
  | [] => some es
  | (i, v) :: r => if (cellsOf v).length = sz ∧ i < es.length ∧ solid v then fillRowO sz (es.set i (cellsOf v)) r else none

def asI : AV → Option Int
  | .d (.int _ n) => some n
  | _ => none

/-- bounds of a slice expression: low, high, max; as Go asks them -/
def bounds (len cap : Nat) (lo hi mx : Option AV) : Option (Nat × Nat) :=
  match lo.map asI, hi.map asI, mx.map asI with
  | some none, _, _ | _, some none, _ | _, _, some none => none
  | lo, hi, mx =>
    let m : Int := match mx with | some (some n) => n | _ => cap
    let h : Int := match hi with | some (some n) => n | _ => len
    let l : Int := match lo with | some (some n) => n | _ => 0
    if 0 ≤ l ∧ l ≤ h ∧ h ≤ len ∧ h ≤ m ∧ m ≤ len then some (l.toNat, h.toNat) else none

def rowLen (H : Heap) (sz : Nat) : AV → Option (List (List D))
  | .d (.vs _ es) => some es
  | .os l n off len => match hget H l with
    | some (.arr z es) => if es.length = n ∧ off + len ≤ n ∧ z = sz then some ((es.drop off).take len) else none
    | some (.fz z es) => if es.length = n ∧ off + len ≤ n ∧ z = sz then some ((es.drop off).take len) else none
    | _ => none
  | _ => none

def byteOfD : List D → Option UInt8
  | [.int .u8 n] => some (UInt8.ofNat n.toNat)
  | _ => none

def bytesOfD : List (List D) → Option (List UInt8)
  | [] => some []
  | c :: r => match byteOfD c with
    | none => none
    | some b => match bytesOfD r with
      | none => none
      | some bs => some (b :: bs)

def dOfBytes (s : List UInt8) : List (List D) := s.map fun b => [.int .u8 b.toNat]

def findE (k : AV) : List (AV × AV) → Option (Option AV)
  | [] => some none
  | (q, v) :: r => match avEq k q with
    | some true => some (some v)
    | some false => findE k r
    | none => none

def setE (k v : AV) : List (AV × AV) → List (AV × AV)
  | [] => [(k, v)]
  | (q, w) :: r => if avEq k q = some true then (q, v) :: r else (q, w) :: setE k v r

def delE (k : AV) : List (AV × AV) → List (AV × AV)
  | [] => []
  | (q, w) :: r => if avEq k q = some true then r else (q, w) :: delE k r

/-- what a call of function f with these values and this memory comes to -/
abbrev Callee := Nat → List AV → Heap → Option (AV × Heap)

structure Ctx where
  own : Nat → Bool
  retOwn : Nat → Bool
  C : Callee

def noViews : AV → Bool
  | .d (.int ..) | .d (.bool ..) | .d (.str ..) | .d .nili | .d .nilp | .d .nilm | .d .nilf => true
  | .d (.ifc _ (.int ..)) => true
  | .d (.vs _ []) => true
  | .agg cs | .tup cs => cs.all fun | .d (.int ..) | .d (.bool ..) | .d (.str ..) | .d .nili | .d (.vs _ []) => true | .d (.ifc _ (.int ..)) => true | _ => false
  | _ => false

/-- objects, renamed to 0, 1, .. in their order -/
def pack (H : Heap) (g : Nat → Nat) : Nat → List Nat → Option Heap
  | _, [] => some []
  | i, l :: r => match hget H l with
    | none => none
    | some o => match pack H g (i + 1) r with
      | none => none
      | some q => some ((i, renO g o) :: q)

def nodupB : List Nat → Bool
  | [] => true
  | a :: r => !r.contains a && nodupB r

/-- is what comes back from a call in order? -/
def backOK (m : Nat) (rv : AV) (Ho : Heap) : Bool :=
  nodupB (Ho.map (·.1)) && (Ho.all fun x => decide (x.1 < m + 10) && (refsO x.2).all fun j => (hget Ho j).isSome) && ((refs rv).all fun j => (hget Ho j).isSome) && (List.range m).all fun j => (hget Ho j).isSome

/-- The call: what is handed over is renamed to 0, 1, ..; what comes back is renamed back, what is new to nm, nm + 1, .. -/
def acall (X : Ctx) (nm : Nat) (H : Heap) (f : Nat) (args : List AV) : Option (AV × Upd × List Nat) :=
  match (if X.own f then some args else vws H args) with
  | none => none
  | some as =>
    let lent : Upd := if X.own f then [] else frz H (args.flatMap arrsOf)
    let H1 := applyU H lent
    let L := reach H1 RF (refsL as) []
    match pack H1 (fun l => L.idxOf l) 0 L with
    | none => none
    | some Hin =>
      match X.C f (renL (fun l => L.idxOf l) as) Hin with
      | none => none
      | some (rv, Ho) =>
        if L.isEmpty && Ho.isEmpty && noViews rv then some (rv, [], [])
        else
          let back : Nat → Nat := fun j => if j < L.length then L.getD j 0 else nm + (j - L.length)
          if backOK L.length rv Ho && nodupB L && L.all fun l => decide (l < nm) || decide (nm + 10 ≤ l) then
            some (ren back rv, lent ++ Ho.map fun x => (back x.1, renO back x.2), (Ho.filter fun x => decide (L.length ≤ x.1)).map fun x => back x.1)
          else none

def AOpOf.map {α β : Type} (g : α → β) : AOpOf α → AOpOf β
  | .mov x => .mov (g x)
  | .pick c a b => .pick (g c) (g a) (g b)
  | .box sz x => .box sz (g x)
  | .build z ps => .build z (ps.map fun p => (p.1, p.2.1, g p.2.2))
  | .buildSl sz z n ps => .buildSl sz z n (ps.map fun p => (p.1, g p.2))
  | .load sz ag x => .load sz ag (g x)
  | .store sz a v => .store sz (g a) (g v)
  | .nilchk x => .nilchk (g x)
  | .bin op x y => .bin op (g x) (g y)
  | .binb n x y => .binb n (g x) (g y)
  | .isnil k n x => .isnil k n (g x)
  | .eqagg ks n x y => .eqagg ks n (g x) (g y)
  | .un op x => .un op (g x)
  | .toInt k x => .toInt k (g x)
  | .same x => .same (g x)
  | .toStr x => .toStr (g x)
  | .mkfn f cs => .mkfn f (cs.map g)
  | .mkmap ag ks => .mkmap ag ks
  | .mksl sz z l c => .mksl sz z (g l) (g c)
  | .slstr x l h => .slstr (g x) (l.map g) (h.map g)
  | .slice sz x l h m => .slice sz (g x) (l.map g) (h.map g) (m.map g)
  | .faddr o x => .faddr o (g x)
  | .iarr n sz x i => .iarr n sz (g x) (g i)
  | .fidx n sz ag x i => .fidx n sz ag (g x) (g i)
  | .field o sz ag x => .field o sz ag (g x)
  | .iaddr sz x i => .iaddr sz (g x) (g i)
  | .idx x i => .idx (g x) (g i)
  | .lookup ag ks z x k ok => .lookup ag ks z (g x) (g k) ok
  | .mapupd ag ks m k v => .mapupd ag ks (g m) (g k) (g v)
  | .extract x i => .extract (g x) i
  | .call f xs => .call (g f) (xs.map g)
  | .len k x => .len k (g x)
  | .append sz x y => .append sz (g x) (g y)
  | .appz sz z x n => .appz sz z (g x) (g n)
  | .copy sz x y => .copy sz (g x) (g y)
  | .clear z x => .clear z (g x)
  | .delete ag ks m k => .delete ag ks (g m) (g k)
  | .best mx xs => .best mx (xs.map g)
  | .mkif t x => .mkif t (g x)
  | .bad => .bad

/-- the elements of what is appended or copied -/
def rowOf (H : Heap) (sz : Nat) : AV → Option (List (List D))
  | .d (.str s) => if sz = 1 then some (dOfBytes s) else none
  | v => rowLen H sz v

def sized (sz : Nat) (ys : List (List D)) : Bool := ys.all fun c => c.length == sz

def aappend (nm : Nat) (H : Heap) (sz : Nat) (x : AV) (ys : List (List D)) : Option (AV × Upd) :=
  match x with
  | .d (.vs true []) => if ys.isEmpty then some (.d (.vs true []), [])
    else if ys.length ≤ LIM then some (.os nm ys.length 0 ys.length, [(nm, .arr sz ys)]) else none
  | .os l n 0 len => match hget H l with
    | some (.arr z es) =>
      if es.length = n ∧ len = n ∧ z = sz ∧ n + ys.length ≤ LIM then some (.os l (n + ys.length) 0 (n + ys.length), [(l, .arr sz (es ++ ys))])
      else if es.length = n ∧ z = sz ∧ len + ys.length ≤ n ∧ n ≤ LIM then some (.os l n 0 (len + ys.length), [(l, .arr sz (Bz.put es len ys))])
      else none
    | _ => none
  | _ => none

/-- a row's elements that may lead to something -/
def rowsO (H : Heap) (sz : Nat) : AV → Option (List (List AV))
  | .os l n 0 len => match hget H l with
    | some (.oar z es) => if es.length = n ∧ len = n ∧ z = sz then some es else none
    | _ => none
  | _ => none

def isO (H : Heap) : AV → Bool
  | .os l _ _ _ => match hget H l with
    | some (.oar _ _) => true
    | _ => false
  | _ => false

def isRefA : AV → Bool
  | .pv _ _ => true
  | _ => false

def sizedO (sz : Nat) (ys : List (List AV)) : Bool := ys.all fun c => c.length == sz && c.all flatA

def aappendO (nm : Nat) (H : Heap) (sz : Nat) (x : AV) (ys : List (List AV)) : Option (AV × Upd) :=
  match x with
  | .d (.vs true []) => if ys.isEmpty then some (.d (.vs true []), [])
    else if ys.length ≤ LIM then some (.os nm ys.length 0 ys.length, [(nm, .oar sz ys)]) else none
  | .os l n 0 len => match hget H l with
    | some (.oar z es) =>
      if es.length = n ∧ len = n ∧ z = sz ∧ n + ys.length ≤ LIM then some (.os l (n + ys.length) 0 (n + ys.length), [(l, .oar sz (es ++ ys))])
      else none
    | _ => none
  | _ => none

def acopy (H : Heap) (sz : Nat) (x : AV) (ys : List (List D)) : Option (AV × Upd) :=
  match x with
  | .os l n off len => match hget H l with
    | some (.arr z es) =>
      if es.length = n ∧ off + len ≤ n ∧ z = sz then
        some (intV ((min ys.length len : Nat) : Int), [(l, .arr sz (Bz.put es off (ys.take (min ys.length len))))])
      else none
    | _ => none
  | _ => none

def alookup (H : Heap) (ag : Bool) (ks : List SK) (x k : AV) : Option (Option AV) :=
  if keyOK ag ks k then
    match x with
    | .d .nilm => some none
    | .map l => match hget H l with
      | some (.mp ag' ks' es) => if ag' = ag ∧ ks' = ks then findE k es else none
      | _ => none
    | _ => none
  else none

def afaddr (off : Nat) : AV → Option AV
  | .pv l j => some (.pv l (j + off))
  | .pa l n i j => some (.pa l n i (j + off))
  | .vp c j => some (.vp c (j + off))
  | _ => none

def aiarr (n sz : Nat) : AV → AV → Option AV
  | .pv l j, .d (.int _ k) => if 0 ≤ k ∧ k < n then some (.pv l (j + k.toNat * sz)) else none
  | _, _ => none

def anil : AV → Option AV
  | .pv l j => some (.pv l j)
  | .pa l n i j => some (.pa l n i j)
  | .vp c j => some (.vp c j)
  | .fn f caps => some (.fn f caps)
  | _ => none

def aidx : AV → AV → Option AV
  | .d (.str s), .d (.int _ k) => if 0 ≤ k then (s[k.toNat]?).map fun b => .d (.int .u8 b.toNat) else none
  | _, _ => none

/-- is an array's element of this size? -/
def szAt (H : Heap) (sz l : Nat) : Bool := match hget H l with
  | some (.arr z _) | some (.fz z _) => z == sz
  | some (.oar z _) => z == sz
  | _ => false

def aindex (sz : Nat) (H : Heap) : AV → AV → Option AV
  | .d (.vs _ es), .d (.int _ k) => if 0 ≤ k then (es[k.toNat]?).bind (fun c => if c.length = sz then some (.vp c 0) else none) else none
  | .os l n off len, .d (.int _ k) => if 0 ≤ k ∧ k < len ∧ szAt H sz l then some (.pa l n (off + k.toNat) 0) else none
  | _, _ => none

/-- a slice without room: its bounds meet -/
def nowhere (lo mx : Option AV) : Bool := match mx with
  | some (.d (.int _ m)) => (match lo with
    | none => m == 0
    | some (.d (.int _ l)) => l == m
    | _ => false)
  | _ => false

def aslice (sz : Nat) (H : Heap) (x : AV) (lo hi mx : Option AV) : Option AV :=
  match x with
  | .d (.vs nl es) => if sized sz es then (bounds es.length es.length lo hi mx).map fun p => if nowhere lo mx then .d (.vs true []) else .d (.vs nl ((es.drop p.1).take (p.2 - p.1))) else none
  | .os l n off len => if szAt H sz l && (mx.isNone || nowhere lo mx || (mx.bind asI) == some ((n : Int) - off)) then (bounds len len lo hi mx).map fun p => if nowhere lo mx then .d (.vs true []) else .os l n (off + p.1) (p.2 - p.1) else none
  | _ => none

def alen (H : Heap) : LK → AV → Option AV
  | .str, .d (.str s) => if s.length ≤ LIM then some (intV s.length) else none
  | .sl, .d (.vs _ es) => some (intV es.length)
  | .sl, .os _ _ _ len => some (intV len)
  | .cp, .d (.vs true []) => some (intV 0)
  | .mp, .d .nilm => some (intV 0)
  | .mp, .map l => match hget H l with
    | some (.mp _ _ es) => some (intV es.length)
    | _ => none
  | _, _ => none

def amapupd (H : Heap) (ag : Bool) (ks : List SK) (m k v : AV) : Option (AV × Upd) :=
  match m with
  | .map l => match hget H l with
    | some (.mp ag' ks' es) =>
      if keyOK ag ks k ∧ ag' = ag ∧ ks' = ks then
        match findE k es, vw H v with
        | some _, some x => if (refs x).isEmpty ∧ solid x then some (.tup [], frz H (arrsOf v) ++ [(l, .mp ag ks (setE k x es))]) else none
        | _, _ => none
      else none
    | _ => none
  | _ => none

def adelete (H : Heap) (ag : Bool) (ks : List SK) (m k : AV) : Option (AV × Upd) :=
  if keyOK ag ks k then
    match m with
    | .map l => match hget H l with
      | some (.mp ag' ks' es) => if ag' = ag ∧ ks' = ks then (findE k es).map fun _ => (.tup [], [(l, .mp ag ks (delE k es))]) else none
      | _ => none
    | .d .nilm => some (.tup [], [])
    | _ => none
  else none

def amksl (nm sz : Nat) (z : List D) (l c : AV) : Option (AV × Upd) :=
  match l, c with
  | .d (.int .i64 a), .d (.int .i64 b) =>
    if a = b ∧ 0 ≤ a ∧ a.toNat ≤ LIM then some (.os nm a.toNat 0 a.toNat, [(nm, .arr sz (List.replicate a.toNat z))]) else none
  | _, _ => none

def isNilC : AV → Bool
  | .d (.vs true []) => true
  | _ => false

/-- so many more of nothing, behind nothing -/
def aappz (nm sz : Nat) (z : List D) (x n : AV) : Option (AV × Upd) :=
  match x, n with
  | .d (.vs true []), .d (.int .i64 k) =>
    if 0 < k ∧ k.toNat ≤ LIM then some (.os nm k.toNat 0 k.toNat, [(nm, .arr sz (List.replicate k.toNat z))]) else none
  | _, _ => none

/-- what is led to from one place alone, as a cell -/
def ofO : O → AV
  | .d x => .d x
  | t => .ow t

def plainRow : List O → Option (List D)
  | [] => some []
  | .d x :: r => (plainRow r).map (x :: ·)
  | _ :: _ => none

def plainRows : List (List O) → Option (List (List D))
  | [] => some []
  | c :: r => match plainRow c, plainRows r with
    | some x, some xs => some (x :: xs)
    | _, _ => none

/-- a place's content, put elsewhere in it -/
def putAt (H : Heap) (v : AV) : AV → Option Upd
  | .pv l j => match hget H l with
    | some (.var cs) => some [(l, .var (cs.set j v))]
    | _ => none
  | .pa l _ i j => match hget H l with
    | some (.oar sz es) => (es[i]?).map fun c => [(l, .oar sz (es.set i (c.set j v)))]
    | _ => none
  | _ => none

/-- what is led to from one place alone gets a name -/
def unfold1 (deep : Bool) (nm : Nat) : O → Option (AV × AObj)
  | .own cs => some (.pv nm 0, .var (cs.map ofO))
  | .osl sz len es => some (.os nm es.length 0 len, match deep, plainRows es with
    | false, some rs => .arr sz rs
    | _, _ => .oar sz (es.map fun c => c.map ofO))
  | .d _ => none

def aopen (deep : Bool) (nm : Nat) (H : Heap) (x : AV) : AV → Option (AV × Upd × List Nat)
  | .ow t => match unfold1 deep nm t with
    | some (v, o) => (putAt H v x).map fun u => (v, u ++ [(nm, o)], [nm])
    | none => none
  | v => some (v, [], [])

/-- a switch of the seat's: rows of slices are led to, not seen -/
def Ctx.deep (X : Ctx) : Bool := X.own 999999999

/-! rows that lead to something, seen as data -/
mutual
def viewO : O → Option D
  | .d x => some (norm x)
  | .own _ => none
  | .osl _ len es => match viewOss es with
    | some rs => some (.vs false (rs.take len))
    | none => none
def viewOs : List O → Option (List D)
  | [] => some []
  | x :: r => match viewO x, viewOs r with
    | some y, some ys => some (y :: ys)
    | _, _ => none
def viewOss : List (List O) → Option (List (List D))
  | [] => some []
  | x :: r => match viewOs x, viewOss r with
    | some y, some ys => some (y :: ys)
    | _, _ => none
end

def viewA : AV → Option D
  | .d x => some (norm x)
  | .ow t => viewO t
  | _ => none
def viewAs : List AV → Option (List D)
  | [] => some []
  | x :: r => match viewA x, viewAs r with
    | some y, some ys => some (y :: ys)
    | _, _ => none
def viewAss : List (List AV) → Option (List (List D))
  | [] => some []
  | x :: r => match viewAs x, viewAss r with
    | some y, some ys => some (y :: ys)
    | _, _ => none

def vwDO (H : Heap) (v : AV) : Option D := match v with
  | .os l n 0 len => match hget H l with
    | some (.oar _ es) => if es.length = n ∧ len ≤ n then (match viewAss es with
      | some rs => some (.vs false (rs.take len))
      | none => none) else none
    | _ => vwD H v
  | v => vwD H v
def vwDOs (H : Heap) : List AV → Option (List D)
  | [] => some []
  | v :: r => match vwDO H v, vwDOs H r with
    | some x, some xs => some (x :: xs)
    | _, _ => none
def vwO (H : Heap) : AV → Option AV
  | .agg cs => (vwDOs H cs).map fun ds => .agg (ds.map .d)
  | v => (vwDO H v).map .d
def vwsO (H : Heap) : List AV → Option (List AV)
  | [] => some []
  | v :: r => match vwO H v, vwsO H r with
    | some x, some xs => some (x :: xs)
    | _, _ => none

def isOV (H : Heap) : AV → Bool
  | .agg cs => cs.any (isO H)
  | v => isO H v

/-! what sees nothing -/
def pureD : D → Bool
  | .vs _ (_ :: _) => false
  | .ifc _ x => pureD x
  | _ => true
mutual
def pureO : O → Bool
  | .d x => pureD x
  | .own cs => pureOs cs
  | .osl _ _ es => pureOss es
def pureOs : List O → Bool
  | [] => true
  | x :: r => pureO x && pureOs r
def pureOss : List (List O) → Bool
  | [] => true
  | x :: r => pureOs x && pureOss r
end
def pureC : AV → Bool
  | .d x => pureD x
  | .ow t => pureO t
  | .os _ _ _ _ => true
  | .pv _ _ => true
  | _ => false
def pureA : AV → Bool
  | .agg cs => cs.all pureC
  | .tup cs => cs.all pureC
  | v => pureC v
def pureObj : AObj → Bool
  | .var cs => cs.all pureC
  | .arr _ es => es.all fun c => c.all pureD
  | .oar _ es => es.all fun c => c.all pureC
  | _ => false

/-- A call that is lent rows that lead to something: what comes back sees nothing of them. -/
def acallD (X : Ctx) (nm : Nat) (H : Heap) (f : Nat) (args : List AV) : Option (AV × Upd × List Nat) :=
  match vwsO H args with
  | none => none
  | some as => match X.C f as [] with
    | none => none
    | some (rv, Ho) =>
      if Ho.isEmpty && noViews rv then some (rv, [], [])
      else if pureA rv && (Ho.all fun x => pureObj x.2) && backOK 0 rv Ho then
        some (ren (fun j => nm + j) rv, Ho.map fun x => (nm + x.1, renO (fun j => nm + j) x.2), Ho.map fun x => nm + x.1)
      else none

/-- One operation, its operands evaluated: what it yields, and what it turns. nm: a name for what it makes. -/
def aop (X : Ctx) (nm : Nat) (H : Heap) : AOpOf AV → Option (AV × Upd × List Nat)
  | .mov x => some (x, [], [])
  | .pick c a b => match c with
    | .d (.bool t) => some (if t then a else b, [], [])
    | _ => none
  | .box sz x => if (cellsOf x).length = sz ∧ solid x then some (.pv nm 0, [(nm, .var (cellsOf x))], [nm]) else none
  | .build z ps => (fillCells z ps).map fun cs => (.agg cs, [], [])
  | .buildSl sz z len ps => if X.deep || ps.any (fun p => isRefA p.2) then
    (fillRowO sz (List.replicate len (z.map .d)) ps).map fun es => (.os nm len 0 len, [(nm, .oar sz es)], [nm])
    else
    (fillRow H sz (List.replicate len z) ps).map fun es =>
      (.os nm len 0 len, frz H (ps.flatMap fun p => (cellsOf p.2).flatMap arrsOf) ++ [(nm, .arr sz es)], [nm])
  | .load sz ag x => (aload H sz ag x).bind (aopen X.deep nm H x)
  | .store sz a v => (astore H sz a v).map fun u => (.tup [], u, [])
  | .nilchk x => (if liveA H x then anil x else none).map fun v => (v, [], [])
  | .bin op x y => (abin op x y).map fun v => (v, [], [])
  | .binb neg x y => (abinb neg x y).map fun v => (v, [], [])
  | .isnil k neg x => (if liveA H x then isNilU k x else none).map fun r => (match r with | some b => boolV (if neg then !b else b) | none => .anyb, [], [])
  | .eqagg ks neg x y => (aeqagg ks neg x y).map fun v => (v, [], [])
  | .un op x => (aun op x).map fun v => (v, [], [])
  | .toInt k x => match x with
    | .d (.int _ n) => some (.d (.int k (k.wrap n)), [], [])
    | _ => none
  | .same x => match x with
    | .d (.str s) => some (.d (.str s), [], [])
    | _ => none
  | .toStr x => ((rowLen H 1 x).bind bytesOfD).map fun s => (.d (.str s), [], [])
  | .mkfn f cs => some (.fn f cs, [], [])
  | .mkmap ag ks => some (.map nm, [(nm, .mp ag ks [])], [nm])
  | .mksl sz z l c => (amksl nm sz z l c).map fun p => (p.1, p.2, [nm])
  | .slstr x lo hi => match x with
    | .d (.str s) => (bounds s.length s.length lo hi none).map fun p => (.d (.str ((s.drop p.1).take (p.2 - p.1))), [], [])
    | _ => none
  | .slice sz x lo hi mx => (if liveA H x then aslice sz H x lo hi mx else none).map fun v => (v, [], [])
  | .faddr off x => (if liveA H x then afaddr off x else none).map fun v => (v, [], [])
  | .iarr n sz x i => (if liveA H x then aiarr n sz x i else none).map fun v => (v, [], [])
  | .fidx n sz ag x i => match x, i with
    | .agg cs, .d (.int _ k) => if 0 ≤ k ∧ k < n then ((cut cs (k.toNat * sz) sz).bind (mkVal ag)).map fun v => (v, [], []) else none
    | _, _ => none
  | .field off sz ag x => match x with
    | .agg cs => ((cut cs off sz).bind (mkVal ag)).map fun v => (v, [], [])
    | _ => none
  | .iaddr sz x i => (if liveA H x then aindex sz H x i else none).map fun v => (v, [], [])
  | .idx x i => (aidx x i).map fun v => (v, [], [])
  | .lookup ag ks z x k ok => (alookup H ag ks x k).map fun r => (if ok then .tup [r.getD z, boolV r.isSome] else r.getD z, [], [])
  | .mapupd ag ks m k v => (amapupd H ag ks m k v).map fun p => (p.1, p.2, [])
  | .extract x i => match x with
    | .tup cs => (cs[i]?).map fun v => (v, [], [])
    | _ => none
  | .call f args => match f with
    | .fn g caps => if X.deep && !X.own g && (args ++ caps).any (isOV H) then acallD X nm H g (args ++ caps) else acall X nm H g (args ++ caps)
    | _ => none
  | .len k x => (if liveA H x then alen H k x else none).map fun v => (v, [], [])
  | .append sz x y => if isO H x || isO H y then
      (rowsO H sz y).bind fun ys => if sizedO sz ys then (aappendO nm H sz x ys).map fun p => (p.1, p.2, if isNilC x then p.2.map (·.1) else []) else none
    else (rowOf H sz y).bind fun ys => if sized sz ys then (aappend nm H sz x ys).map fun p => (p.1, p.2, if isNilC x then p.2.map (·.1) else []) else none
  | .appz sz z x n => (aappz nm sz z x n).map fun p => (p.1, p.2, [nm])
  | .copy sz x y => (rowOf H sz y).bind fun ys => if sized sz ys then (acopy H sz x ys).map fun p => (p.1, p.2, []) else none
  | .clear z x => match x with
    | .os l n off len => match hget H l with
      | some (.arr s es) => if es.length = n ∧ off + len ≤ n ∧ z.length = s then some (.tup [], [(l, .arr s (Bz.put es off (List.replicate len z)))], []) else none
      | _ => none
    | .d (.vs _ []) => some (.tup [], [], [])
    | _ => none
  | .delete ag ks m k => (adelete H ag ks m k).map fun p => (p.1, p.2, [])
  | .best mx xs => match xs with
    | [.d (.int k a), .d (.int k' b)] => if k = k' then some (.d (.int k (if mx then (if b > a then b else a) else (if b < a then b else a))), [], []) else none
    | _ => none
  | .mkif t x => match x with
    | .d v => some (.d (.ifc t v), [], [])
    | _ => none
  | .bad => none

structure St where
  E : List AV
  H : Heap

def putE (E : List AV) (dst : Option Nat) (v : AV) : List AV :=
  match dst with
  | some d => E.set d v
  | none => E

/-- is an operation carried out? -/
def wants (E : List AV) : Option (Nat × Bool) → Option Bool
  | none => some true
  | some (g, b) => match nth E g with
    | .d (.bool t) => some (t == b)
    | .tup [] => some false
    | _ => none

def nameOf (rid i : Nat) : Nat := ((rid + 1) * 1000 + i) * 10

/-- names that are new are named by nothing -/
def freshU (E : List AV) (H : Heap) (nw : List Nat) : Bool := nw.all fun l => noRef l E H

def aops (X : Ctx) (rid : Nat) : List AOper → Nat → St → Option St
  | [], _, s => some s
  | o :: r, i, s =>
    match wants s.E o.guard with
    | none => none
    | some false => aops X rid r (i + 1) { s with E := putE s.E o.dst (.tup []) }
    | some true => match aop X (nameOf rid i) s.H (o.op.map (aev s.E)) with
      | none => none
      | some (v, u, nw) =>
        if freshU s.E s.H nw then aops X rid r (i + 1) { E := putE s.E o.dst v, H := applyU s.H u } else none

/-- what an operation reads, beside what it writes -/
def rd : AOpOf AV → List Nat
  | .load _ _ x => refs x
  | .store _ a v => refs a ++ refs v
  | .box _ x => refs x
  | .buildSl _ _ _ ps => refsL (ps.map (·.2))
  | .toStr x => refs x
  | .lookup _ _ _ x _ _ => refs x
  | .mapupd _ _ m _ v => refs m ++ refs v
  | .len _ x => refs x
  | .nilchk x => refs x
  | .isnil _ _ x => refs x
  | .slice _ x _ _ _ => refs x
  | .faddr _ x => refs x
  | .iarr _ _ x _ => refs x
  | .iaddr _ x _ => refs x
  | .append _ x y => refs x ++ refs y
  | .copy _ x y => refs x ++ refs y
  | .clear _ x => refs x
  | .delete _ _ m _ => refs m
  | .call f xs => refs f ++ refsL xs
  | _ => []

def disj (a b : List Nat) : Bool := a.all fun x => !b.contains x

/-- what an operation did: its place, what it read, wrote, made anew, and what its values name -/
structure Foot where
  i : Nat
  r : List Nat
  w : List Nat
  nw : List Nat
  m : List Nat

def footOf (i : Nat) (op : AOpOf AV) (v : AV) (u : Upd) (nw : List Nat) : Foot :=
  { i, r := rd op, w := u.map (·.1), nw, m := refs v ++ u.flatMap fun x => refsO x.2 }

/-- no clash with what was carried out ahead of it and need not have been -/
def clears (bef : List Nat) (f : Foot) (fs : List Foot) : Bool :=
  fs.all fun g => disj f.nw g.m && (bef.contains g.i || (disj f.w g.r && disj f.w g.w && disj g.w f.r && disj g.nw f.m))

/-- A region whose order is open: in the text's order, while any other order comes to the same. -/
def aopsD (X : Ctx) (rid : Nat) (s0 : St) : List AOper → Nat → St → List Foot → Option St
  | [], _, s, _ => some s
  | o :: r, i, s, fs =>
    match wants s.E o.guard with
    | none => none
    | some false => aopsD X rid s0 r (i + 1) { s with E := putE s.E o.dst (.tup []) } fs
    | some true => match aop X (nameOf rid i) s.H (o.op.map (aev s.E)) with
      | none => none
      | some (v, u, nw) =>
        if freshU s0.E s0.H nw && freshU s.E s.H nw && clears o.bef (footOf i (o.op.map (aev s.E)) v u nw) fs then
          aopsD X rid s0 r (i + 1) { E := putE s.E o.dst v, H := applyU s.H u } (footOf i (o.op.map (aev s.E)) v u nw :: fs)
        else none

inductive AExit where
  | norm
  | exit (id : Nat)
  | ret
  | goto (l : Nat)
  deriving DecidableEq, Inhabited

def maskE (ks : List Nat) : List AV → Nat → List AV
  | [], _ => []
  | v :: r, i => (if ks.contains i then v else .undef) :: maskE ks r (i + 1)

/-- the objects that are still led to -/
def gcH (E : List AV) (H : Heap) : Heap :=
  let L := reach H RF ((H.map (·.1)).filter (fun l => decide (l < 10000)) ++ refsL E) []
  H.filter fun x => L.contains x.1

/-- is a name free? -/
def freeN (p : Nat) (s : St) : Bool := decide (10000 ≤ p) && (hget s.H p).isNone && noRef p s.E s.H

def proAt (s : St) : Pro → AV × Nat × Nat
  | .slot k p sz => (nth s.E k, p, sz)
  | .cell l j p sz => (match hget s.H l with
    | some (.var cs) => nth cs j
    | _ => .undef, p, sz)
  | .fslot k => (nth s.E k, 0, 0)
  | .fcell l j => (match hget s.H l with
    | some (.var cs) => nth cs j
    | _ => .undef, 0, 0)
  | .oslot k p sz => (nth s.E k, p, sz)
  | _ => (.undef, 0, 0)

def proSet (s : St) (v : AV) : Pro → St
  | .slot k _ _ => { s with E := s.E.set k v }
  | .cell l j _ _ => match hget s.H l with
    | some (.var cs) => { s with H := hset s.H l (.var (cs.set j v)) }
    | _ => s
  | .fslot k => { s with E := s.E.set k v }
  | .fcell l j => match hget s.H l with
    | some (.var cs) => { s with H := hset s.H l (.var (cs.set j v)) }
    | _ => s
  | .oslot k _ _ => { s with E := s.E.set k v }
  | _ => s

/-- another name for what bears one -/
def renS (l p : Nat) (s : St) : St :=
  { E := renL (fun x => if x = l then p else x) s.E, H := s.H.map fun x => (if x.1 = l then p else x.1, renO (fun x => if x = l then p else x) x.2) }

def isF : Pro → Bool
  | .fslot _ => true
  | .fcell _ _ => true
  | _ => false

/-- a slice becomes data -/
def demote (q : Pro) (s : St) : St := match (proAt s q).1 with
  | .os l n off len => match hget s.H l with
    | some (.arr sz es) => if es.length = n ∧ off + len ≤ n then proSet { s with H := hset s.H l (.fz sz es) } (.d (.vs false ((es.drop off).take len))) q else s
    | some (.fz _ es) => if es.length = n ∧ off + len ≤ n then proSet s (.d (.vs false ((es.drop off).take len))) q else s
    | _ => s
  | .d x => proSet s (.d (norm x)) q
  | _ => s

/-- is it led to from where it stands alone? -/
def toO : AV → Option O
  | .d x => some (.d x)
  | .ow t => some t
  | _ => none

def toOs : List AV → Option (List O)
  | [] => some []
  | v :: r => match toO v, toOs r with
    | some x, some xs => some (x :: xs)
    | _, _ => none

def toOss : List (List AV) → Option (List (List O))
  | [] => some []
  | c :: r => match toOs c, toOss r with
    | some x, some xs => some (x :: xs)
    | _, _ => none

/-- what a cell leads to, folded into it; its name goes -/
def fold1 (H : Heap) : AV → Option (AV × Nat)
  | .pv l 0 => if 10000 ≤ l then match hget H l with
      | some (.var cs) => (toOs cs).map fun ds => (.ow (.own ds), l)
      | _ => none
    else none
  | .os l n 0 len => if 10000 ≤ l then match hget H l with
      | some (.arr sz es) => if es.length = n ∧ len ≤ n then
          (if n = 0 then some (.d (.vs true []), l) else some (.ow (.osl sz len ((es.take (max len 1)).map fun c => c.map .d)), l)) else none
      | some (.oar sz es) => if es.length = n ∧ len = n then
          (if n = 0 then some (.d (.vs true []), l) else (toOss es).map fun ds => (.ow (.osl sz len ds), l)) else none
      | _ => none
    else none
  | _ => none

def hdel (H : Heap) (l : Nat) : Heap := H.filter fun x => x.1 != l

/-- a cell of a struct -/
def closeC (l j : Nat) (s : St) : St := match hget s.H l with
  | some (.var cs) => match fold1 s.H (nth cs j) with
    | some (v, m) => if m = l then s else { s with H := hdel (hset s.H l (.var (cs.set j v))) m }
    | none => s
  | _ => s

/-- a cell of a row -/
def closeE (l i j : Nat) (s : St) : St := match hget s.H l with
  | some (.oar sz es) => match es[i]? with
    | some c => match fold1 s.H (nth c j) with
      | some (v, m) => if m = l then s else { s with H := hdel (hset s.H l (.oar sz (es.set i (c.set j v)))) m }
      | none => s
    | none => s
  | _ => s

def closeRow (l : Nat) : List (Nat × Nat) → St → St
  | [], s => s
  | (i, j) :: r, s => closeRow l r (closeE l i j s)

/-- the places of a row that lead to something -/
def refCols : Nat → List AV → List Nat
  | _, [] => []
  | j, .pv _ _ :: r => j :: refCols (j + 1) r
  | j, .os _ _ _ _ :: r => j :: refCols (j + 1) r
  | j, _ :: r => refCols (j + 1) r
def refAtF : Nat → List (List AV) → List (Nat × Nat)
  | _, [] => []
  | i, c :: r => (refCols 0 c).map (fun j => (i, j)) ++ refAtF (i + 1) r
def refAt (es : List (List AV)) : List (Nat × Nat) := refAtF 0 es

def closeO (v : AV) (s : St) : St := match v with
  | .os l _ _ _ => match hget s.H l with
    | some (.oar _ es) => closeRow l (refAt es) s
    | _ => s
  | _ => s

def closeP (q : Pro) (s : St) : St := match q with
  | .clc l j => closeC l j s
  | .cli l b d k => match nth s.E k with
    | .d (.int _ n) => closeC l (b + d * n.toNat) s
    | _ => s
  | .clrow l j => match hget s.H l with
    | some (.var cs) => closeO (nth cs j) s
    | _ => s
  | .clrows k => closeO (nth s.E k) s
  | _ => s

def isC : Pro → Bool
  | .clc _ _ | .cli _ _ _ _ | .clrow _ _ | .clrows _ => true
  | _ => false

def isOs : Pro → Bool
  | .oslot _ _ _ => true
  | _ => false

def prom (q : Pro) (s : St) : St :=
  match isC q with
  | true => closeP q s
  | false =>
  match isF q with
  | true => demote q s
  | false => match proAt s q with
  | (.d (.vs true []), p, sz) => if freeN p s && decide (0 < sz) then proSet { s with H := hset s.H p (if isOs q then .oar sz [] else .arr sz []) } (.os p 0 0 0) q else s
  | (.os l _ _ _, p, _) => if freeN p s && decide (10000 ≤ l) then renS l p s else s
  | _ => s

def insH (x : Nat × AObj) : Heap → Heap
  | [] => [x]
  | y :: r => if x.1 ≤ y.1 then x :: y :: r else y :: insH x r

def sortH : Heap → Heap
  | [] => []
  | x :: r => insH x (sortH r)

def proms : List Pro → St → St
  | [], s => s
  | q :: r, s => proms r (prom q s)

/-- what is led to no more goes, once more -/
def gcP : List Pro → St → St
  | [], s => s
  | _ :: _, s => { s with H := gcH s.E s.H }

def trim1 (ks : List Nat) (s : St) : St := { E := maskE ks s.E 0, H := gcH (maskE ks s.E 0) s.H }
def sortS (s : St) : St := { s with H := sortH s.H }
def trim (m : Mask) (s : St) : St := sortS (gcP m.pro (proms m.pro (trim1 m.keep s)))

/-- rounds of a loop -/
def rounds (body : St → Option (AExit × St)) (mask : Mask) : Nat → St → Option (AExit × St)
  | 0, _ => none
  | k + 1, s => match body (trim mask s) with
    | some (.norm, s') => rounds body mask k s'
    | r => r

/-- again from the start at each goto l -/
def jumps (body : St → Option (AExit × St)) (mask : Mask) (l : Nat) : Nat → St → Option (AExit × St)
  | 0, _ => none
  | k + 1, s => match body (trim mask s) with
    | some (.goto j, s') => if j = l then jumps body mask l k s' else none
    | r => r

mutual
def eqD : D → D → Bool
  | .int k a, .int k' b => decide (k = k') && a == b
  | .bool a, .bool b => a == b
  | .str a, .str b => a == b
  | .vs a x, .vs b y => a == b && eqDss x y
  | .nilp, .nilp | .nilm, .nilm | .nilf, .nilf | .nili, .nili => true
  | .ifc t x, .ifc u y => t == u && eqD x y
  | _, _ => false
def eqDs : List D → List D → Bool
  | [], [] => true
  | x :: r, y :: s => eqD x y && eqDs r s
  | _, _ => false
def eqDss : List (List D) → List (List D) → Bool
  | [], [] => true
  | x :: r, y :: s => eqDs x y && eqDss r s
  | _, _ => false
end

mutual
def eqOw : O → O → Bool
  | .d x, .d y => eqD x y
  | .own a, .own b => eqOs a b
  | .osl a b x, .osl c d y => a == c && b == d && eqOss x y
  | _, _ => false
def eqOs : List O → List O → Bool
  | [], [] => true
  | x :: r, y :: s => eqOw x y && eqOs r s
  | _, _ => false
def eqOss : List (List O) → List (List O) → Bool
  | [], [] => true
  | x :: r, y :: s => eqOs x y && eqOss r s
  | _, _ => false
end

mutual
def eqA : AV → AV → Bool
  | .undef, .undef | .anyb, .anyb => true
  | .ow x, .ow y => eqOw x y
  | .d x, .d y => eqD x y
  | .os a b c d, .os e f g h => a == e && b == f && c == g && d == h
  | .pv a b, .pv c d => a == c && b == d
  | .pa a b c d, .pa e f g h => a == e && b == f && c == g && d == h
  | .vp a b, .vp c d => eqDs a c && b == d
  | .map a, .map b => a == b
  | .fn a b, .fn c d => a == c && eqAs b d
  | .agg a, .agg b => eqAs a b
  | .tup a, .tup b => eqAs a b
  | _, _ => false
def eqAs : List AV → List AV → Bool
  | [], [] => true
  | x :: r, y :: s => eqA x y && eqAs r s
  | _, _ => false
end

def eqO : AObj → AObj → Bool
  | .var a, .var b => eqAs a b
  | .arr a x, .arr b y => a == b && eqDss x y
  | .fz a x, .fz b y => a == b && eqDss x y
  | _, _ => false
def eqH : Heap → Heap → Bool
  | [], [] => true
  | (a, x) :: r, (b, y) :: s => a == b && eqO x y && eqH r s
  | _, _ => false
def eqR (a b : AExit × St) : Bool := decide (a.1 = b.1) && eqAs a.2.E b.2.E && eqH a.2.H b.2.H

/-- whichever way it goes, it comes to the same -/
def bothK : Option (AExit × St) → Option (AExit × St) → Option (AExit × St)
  | some a, some b => if eqR a b then some a else none
  | _, _ => none

mutual
theorem eqD_eq : ∀ {a b : D}, eqD a b = true → a = b
  | .int .., .int .., h => by simp [eqD] at h; simp [h]
  | .bool _, .bool _, h => by simp [eqD] at h; simp [h]
  | .str _, .str _, h => by simp [eqD] at h; simp [h]
  | .vs a x, .vs b y, h => by
    simp only [eqD, Bool.and_eq_true, beq_iff_eq] at h
    rw [h.1, eqDss_eq h.2]
  | .nilp, .nilp, _ => rfl
  | .nilm, .nilm, _ => rfl
  | .nilf, .nilf, _ => rfl
  | .nili, .nili, _ => rfl
  | .ifc t x, .ifc u y, h => by
    simp only [eqD, Bool.and_eq_true, beq_iff_eq] at h
    rw [h.1, eqD_eq h.2]
  | .int .., .bool _, h | .int .., .str _, h | .int .., .vs .., h | .int .., .nilp, h | .int .., .nilm, h | .int .., .nilf, h | .int .., .nili, h | .int .., .ifc .., h => by simp [eqD] at h
  | .bool _, .int .., h | .bool _, .str _, h | .bool _, .vs .., h | .bool _, .nilp, h | .bool _, .nilm, h | .bool _, .nilf, h | .bool _, .nili, h | .bool _, .ifc .., h => by simp [eqD] at h
  | .str _, .int .., h | .str _, .bool _, h | .str _, .vs .., h | .str _, .nilp, h | .str _, .nilm, h | .str _, .nilf, h | .str _, .nili, h | .str _, .ifc .., h => by simp [eqD] at h
  | .vs .., .int .., h | .vs .., .bool _, h | .vs .., .str _, h | .vs .., .nilp, h | .vs .., .nilm, h | .vs .., .nilf, h | .vs .., .nili, h | .vs .., .ifc .., h => by simp [eqD] at h
  | .nilp, .int .., h | .nilp, .bool _, h | .nilp, .str _, h | .nilp, .vs .., h | .nilp, .nilm, h | .nilp, .nilf, h | .nilp, .nili, h | .nilp, .ifc .., h => by simp [eqD] at h
  | .nilm, .int .., h | .nilm, .bool _, h | .nilm, .str _, h | .nilm, .vs .., h | .nilm, .nilp, h | .nilm, .nilf, h | .nilm, .nili, h | .nilm, .ifc .., h => by simp [eqD] at h
  | .nilf, .int .., h | .nilf, .bool _, h | .nilf, .str _, h | .nilf, .vs .., h | .nilf, .nilp, h | .nilf, .nilm, h | .nilf, .nili, h | .nilf, .ifc .., h => by simp [eqD] at h
  | .nili, .int .., h | .nili, .bool _, h | .nili, .str _, h | .nili, .vs .., h | .nili, .nilp, h | .nili, .nilm, h | .nili, .nilf, h | .nili, .ifc .., h => by simp [eqD] at h
  | .ifc .., .int .., h | .ifc .., .bool _, h | .ifc .., .str _, h | .ifc .., .vs .., h | .ifc .., .nilp, h | .ifc .., .nilm, h | .ifc .., .nilf, h | .ifc .., .nili, h => by simp [eqD] at h
theorem eqDs_eq : ∀ {a b : List D}, eqDs a b = true → a = b
  | [], [], _ => rfl
  | x :: r, y :: s, h => by
    simp only [eqDs, Bool.and_eq_true] at h
    rw [eqD_eq h.1, eqDs_eq h.2]
  | [], _ :: _, h => by simp [eqDs] at h
  | _ :: _, [], h => by simp [eqDs] at h
theorem eqDss_eq : ∀ {a b : List (List D)}, eqDss a b = true → a = b
  | [], [], _ => rfl
  | x :: r, y :: s, h => by
    simp only [eqDss, Bool.and_eq_true] at h
    rw [eqDs_eq h.1, eqDss_eq h.2]
  | [], _ :: _, h => by simp [eqDss] at h
  | _ :: _, [], h => by simp [eqDss] at h
end

mutual
theorem eqOw_eq : ∀ {a b : O}, eqOw a b = true → a = b := by
  intro a b h
  cases a <;> cases b <;> simp only [eqOw, Bool.and_eq_true, beq_iff_eq, Bool.false_eq_true] at h
  case d.d => rw [eqD_eq h]
  case own.own => rw [eqOs_eq h]
  case osl.osl => rw [h.1.1, h.1.2, eqOss_eq h.2]
theorem eqOs_eq : ∀ {a b : List O}, eqOs a b = true → a = b
  | [], [], _ => rfl
  | x :: r, y :: s, h => by
    simp only [eqOs, Bool.and_eq_true] at h
    rw [eqOw_eq h.1, eqOs_eq h.2]
  | [], _ :: _, h => by simp [eqOs] at h
  | _ :: _, [], h => by simp [eqOs] at h
theorem eqOss_eq : ∀ {a b : List (List O)}, eqOss a b = true → a = b
  | [], [], _ => rfl
  | x :: r, y :: s, h => by
    simp only [eqOss, Bool.and_eq_true] at h
    rw [eqOs_eq h.1, eqOss_eq h.2]
  | [], _ :: _, h => by simp [eqOss] at h
  | _ :: _, [], h => by simp [eqOss] at h
end

mutual
theorem eqA_eq : ∀ {a b : AV}, eqA a b = true → a = b := by
  intro a b h
  cases a <;> cases b <;> simp only [eqA, Bool.and_eq_true, beq_iff_eq, Bool.false_eq_true] at h
  case undef.undef => rfl
  case anyb.anyb => rfl
  case d.d => rw [eqD_eq h]
  case ow.ow => rw [eqOw_eq h]
  case os.os => simp [h]
  case pv.pv => simp [h]
  case pa.pa => simp [h]
  case vp.vp => rw [eqDs_eq h.1, h.2]
  case map.map => rw [h]
  case fn.fn => rw [h.1, eqAs_eq h.2]
  case agg.agg => rw [eqAs_eq h]
  case tup.tup => rw [eqAs_eq h]
theorem eqAs_eq : ∀ {a b : List AV}, eqAs a b = true → a = b
  | [], [], _ => rfl
  | x :: r, y :: s, h => by
    simp only [eqAs, Bool.and_eq_true] at h
    rw [eqA_eq h.1, eqAs_eq h.2]
  | [], _ :: _, h => by simp [eqAs] at h
  | _ :: _, [], h => by simp [eqAs] at h
end

theorem eqH_eq : ∀ {a b : Heap}, eqH a b = true → a = b
  | [], [], _ => rfl
  | (a, x) :: r, (b, y) :: s, h => by
    simp only [eqH, Bool.and_eq_true, beq_iff_eq] at h
    have hx : x = y := by
      have h2 := h.1.2
      cases x <;> cases y <;> simp only [eqO, Bool.and_eq_true, beq_iff_eq, Bool.false_eq_true] at h2
      case var.var => rw [eqAs_eq h2]
      case arr.arr => rw [h2.1, eqDss_eq h2.2]
      case fz.fz => rw [h2.1, eqDss_eq h2.2]
    rw [h.1.1, hx, eqH_eq h.2]
  | [], _ :: _, h => by simp [eqH] at h
  | _ :: _, [], h => by simp [eqH] at h

theorem eqR_eq {a b : AExit × St} (h : eqR a b = true) : a = b := by
  obtain ⟨e, E, H⟩ := a
  obtain ⟨e', E', H'⟩ := b
  simp only [eqR, Bool.and_eq_true, decide_eq_true_eq] at h
  rw [h.1.1, eqAs_eq h.1.2, eqH_eq h.2]

theorem bothK_some {a b : Option (AExit × St)} {r : AExit × St} (h : bothK a b = some r) : a = some r ∧ b = some r := by
  unfold bothK at h
  split at h
  · rename_i x y
    split at h
    · rename_i e
      cases h
      rw [← eqR_eq e]; exact ⟨rfl, rfl⟩
    · cases h
  · cases h

/-- what must leave -/
def cutN : Option (AExit × St) → Option (AExit × St)
  | some (.norm, _) => none
  | r => r
theorem cutN_some {a : Option (AExit × St)} {r : AExit × St} (h : cutN a = some r) : a = some r ∧ r.1 ≠ .norm := by
  unfold cutN at h
  split at h
  · cases h
  · rename_i hn
    refine ⟨h, fun e => ?_⟩
    obtain ⟨x, y⟩ := r
    simp only at e
    subst e
    exact hn _ h

def aexec (X : Ctx) (k : Nat) : ACode → St → Option (AExit × St)
  | .skip, s => some (.norm, s)
  | .region id ops dr, s => (if dr then aopsD X id s ops 0 s [] else aops X id ops 0 s).map (.norm, ·)
  | .seq a b, s => match aexec X k a s with
    | some (.norm, s') => aexec X k b s'
    | r => r
  | .cond c a b, s => match aev s.E c with
    | .d (.bool t) => if t then aexec X k a s else aexec X k b s
    | .anyb => bothK (aexec X k a s) (aexec X k b s)
    | _ => none
  | .guard p c a b, s => match aexec X k p s with
    | some (.norm, s') => (match aev s'.E c with
      | .d (.bool t) => if t then cutN (aexec X k a s') else aexec X k b s'
      | .anyb => bothK (cutN (aexec X k a s')) (aexec X k b s')
      | _ => none)
    | r => r
  | .block id c, s => match aexec X k c s with
    | some (.exit j, s') => if j = id then some (.norm, s') else some (.exit j, s')
    | r => r
  | .loop mask c, s => rounds (aexec X k c) mask k s
  | .mask m c, s => aexec X k c (trim m s)
  | .exit id, s => some (.exit id, s)
  | .ret, s => some (.ret, s)
  | .goto l, s => some (.goto l, s)
  | .scope l m p b, s => match aexec X k p s with
    | some (.norm, s') => jumps (aexec X k b) m l k s'
    | some (.goto _, _) => none
    | r => r
  | .bad, _ => none

def aresult (s : St) : ARes → Option AV
  | .tmp t => some (nth s.E t)
  | .cell a sz ag => aload s.H sz ag (nth s.E a)
  | .fin _ => none

/-- what is put back at the end -/
def finsOf : List ARes → List Pro
  | [] => []
  | .fin q :: r => q :: finsOf r
  | .tmp _ :: r => finsOf r
  | .cell _ _ _ :: r => finsOf r

def isFin : ARes → Bool
  | .fin _ => true
  | _ => false

def aresults (s : St) : List ARes → Option (List AV)
  | [] => some []
  | .fin _ :: rs => aresults s rs
  | r :: rs => match aresult s r with
    | none => none
    | some v => match aresults s rs with
      | none => none
      | some vs => some (v :: vs)

def mkRes : List AV → AV
  | [v] => v
  | vs => .tup vs

def vwT (H : Heap) : AV → Option AV
  | .tup cs => (vws H cs).map .tup
  | v => vw H v

def arrsT : AV → List Nat
  | .tup cs => cs.flatMap arrsOf
  | v => arrsOf v

/-- a result as it is handed back: slices by their content, where it isn't the function's own to hand out -/
def viewRes (own : Bool) (H : Heap) (v : AV) : Option (AV × Heap) :=
  if own then some (v, H) else (vwT H v).map fun rv => (rv, applyU H (frz H (arrsT v)))

/-- What a function's body comes to: its result (slices by content, where it doesn't hand out its own), and the memory that leads on. -/
def abody (X : Ctx) (k : Nat) (f : Nat) (fn : AFunc) (args : List AV) (H : Heap) : Option (AV × Heap) :=
  match aexec X k fn.body { E := args ++ List.replicate (fn.ntmps - args.length) .undef, H := H } with
  | some (.norm, s) | some (.ret, s) =>
    match aresults s fn.results with
    | none => none
    | some vs =>
      match viewRes (X.retOwn f) s.H (mkRes vs) with
      | none => none
      | some (rv, H2) =>
        let s3 := proms (finsOf fn.results) { E := [rv], H := H2 }
        let L := reach s3.H RF (List.range H.length ++ refs (nth s3.E 0)) []
        match pack s3.H (fun l => L.idxOf l) 0 L with
        | none => none
        | some Ho => if nodupB L && (L.take H.length == List.range H.length) then some (ren (fun l => L.idxOf l) (nth s3.E 0), Ho) else none
  | _ => none

/-- The whole program, calls k deep: by the table of what is known of functions, else by their code. -/
def run (own retOwn : Nat → Bool) (ext : Callee) (code : Nat → Option AFunc) : Nat → Callee
  | 0, _, _, _ => none
  | k + 1, f, args, H =>
    match ext f args H with
    | some r => some r
    | none => match code f with
      | none => none
      | some fn => abody { own, retOwn, C := run own retOwn ext code k } k f fn args H

/-! ### the translation -/
def cvD : Value → Option D
  | .int k n => some (.int k n)
  | .bool b => some (.bool b)
  | .string s => some (.str s.data.toList)
  | .slice none 0 0 => some (.vs true [])
  | .pointer none => some .nilp
  | .map none => some .nilm
  | .nilFunc => some .nilf
  | .nilIface => some .nili
  | _ => none

def cvDs : List Value → Option (List D)
  | [] => some []
  | v :: r => match cvD v, cvDs r with
    | some x, some xs => some (x :: xs)
    | _, _ => none

def cv : Value → Option AV
  | .agg cs => (cvDs cs.toList).map fun ds => .agg (ds.map .d)
  | v => (cvD v).map .d

def cvO : Operand → Option AOpd
  | .tmp t => some (.t t)
  | .const v => (cv v).map .c
  | .func f => some (.c (.fn f []))
  | .global _ => none

def cvOs : List Operand → Option (List AOpd)
  | [] => some []
  | x :: r => match cvO x, cvOs r with
    | some a, some as => some (a :: as)
    | _, _ => none

def cvM : Option Operand → Option (Option AOpd)
  | none => some none
  | some x => (cvO x).map some

section
variable (P : Program)

def szOf (t : TypeId) : Nat := P.cellsOf t
def aggOf (t : TypeId) : Option Bool := (P.underlying t).map fun d => match d with
  | .struct _ | .array _ _ => true
  | _ => false
def isAgg? (t : TypeId) : Bool := (aggOf P t).getD false
def zeroOf (t : TypeId) : Option AV := ((P.info? t).bind (·.zero)).bind cv
def zeroDs (t : TypeId) : Option (List D) := ((P.info? t).bind (·.zero)).bind fun v => cvDs v.cells.toList
def skOf (t : TypeId) : Option SK := match P.underlying t with
  | some (.int k) => some (.int k)
  | some .bool => some .bool
  | some .string => some .str
  | _ => none

def sksOf : List Field → Option (List SK)
  | [] => some []
  | f :: r => match skOf P f.type, sksOf r with
    | some a, some as => if f.name != "_" && szOf P f.type == 1 then some (a :: as) else none
    | _, _ => none

/-- a type whose values can be held against each other: a struct? and its cells' kinds -/
def keyKind (t : TypeId) : Option (Bool × List SK) := match P.underlying t with
  | some (.struct fs) => if (fs.toList.map (·.offset)) == List.range fs.size && !P.stoodInHeld t && szOf P t == fs.size && !P.eqGuardType P.depth t then (sksOf P fs.toList).map fun ks => (true, ks) else none
  | _ => (skOf P t).map fun k => (false, [k])

def isNilOpd (k : NK) : AOpd → Bool
  | .c (.d (.vs true [])) => k == .s
  | .c (.d .nilp) => k == .p
  | .c (.d .nilm) => k == .m
  | .c (.d .nilf) => k == .f
  | _ => false

def cvNil (k : NK) (op : BinOp) (a b : AOpd) : Option AOp :=
  match op with
  | .eql => if isNilOpd k b then some (.isnil k false a) else if isNilOpd k a then some (.isnil k false b) else none
  | .neq => if isNilOpd k b then some (.isnil k true a) else if isNilOpd k a then some (.isnil k true b) else none
  | _ => none

def cvParts (fs : Array Field) : List (Nat × Operand) → Option (List (Nat × Nat × AOpd))
  | [] => some []
  | (i, x) :: r => match fs[i]?, cvO x, cvParts fs r with
    | some f, some a, some as => some ((f.offset, szOf P f.type, a) :: as)
    | _, _, _ => none

def cvPartsA (e : TypeId) : List (Nat × Operand) → Option (List (Nat × Nat × AOpd))
  | [] => some []
  | (i, x) :: r => match cvO x, cvPartsA e r with
    | some a, some as => some ((i * szOf P e, szOf P e, a) :: as)
    | _, _ => none

def cvElems : List (Nat × Operand) → Option (List (Nat × AOpd))
  | [] => some []
  | (i, x) :: r => match cvO x, cvElems r with
    | some a, some as => some ((i, a) :: as)
    | _, _ => none

def cvCall (c : Call) : Option AOp :=
  match c.callee with
  | .value f => match cvO f, cvOs c.args.toList with
    | some g, some as => some (.call g as)
    | _, _ => none
  | .invoke _ _ => none
  | .builtin b =>
    match b, cvOs c.args.toList with
    | .len, some [x] => match (c.argTypes[0]?).bind P.underlying with
      | some .string => some (.len .str x)
      | some (.slice _) => some (.len .sl x)
      | some (.map _ _) => some (.len .mp x)
      | _ => none
    | .cap, some [x] => match (c.argTypes[0]?).bind P.underlying with
      | some (.slice _) => some (.len .cp x)
      | _ => none
    | .append, some [x, y] => match (c.argTypes[0]?).bind P.underlying, (c.argTypes[1]?).bind P.underlying with
      | some (.slice e), some (.slice e') => if szOf P e ≠ 0 ∧ szOf P e' = szOf P e ∧ P.bytesOf e ≤ 256 ∧ (zeroDs P e).map (·.length) = some (szOf P e) then some (.append (szOf P e) x y) else none
      | some (.slice e), some .string => if szOf P e = 1 ∧ P.bytesOf e ≤ 256 ∧ (zeroDs P e).map (·.length) = some (szOf P e) then some (.append 1 x y) else none
      | some (.slice e), some (.int .i64) => match zeroDs P e with
        | some z => if szOf P e ≠ 0 ∧ z.length = szOf P e ∧ P.bytesOf e ≤ 256 then some (.appz (szOf P e) (z.map norm) x y) else none
        | none => none
      | _, _ => none
    | .copy, some [x, y] => match (c.argTypes[0]?).bind P.underlying, (c.argTypes[1]?).bind P.underlying with
      | some (.slice e), some (.slice e') => if szOf P e ≠ 0 ∧ szOf P e' = szOf P e then some (.copy (szOf P e) x y) else none
      | some (.slice e), some .string => if szOf P e = 1 then some (.copy 1 x y) else none
      | _, _ => none
    | .clear, some [x] => match (c.argTypes[0]?).bind P.underlying with
      | some (.slice e) => match zeroDs P e with
        | some z => if szOf P e ≠ 0 ∧ z.length = szOf P e then some (.clear (z.map norm) x) else none
        | none => none
      | _ => none
    | .delete, some [m, k] => match (c.argTypes[0]?).bind P.underlying with
      | some (.map kt _) => (keyKind P kt).map fun q => .delete q.1 q.2 m k
      | _ => none
    | .max, some xs => some (.best true xs)
    | .min, some xs => some (.best false xs)
    | _, _ => none

def cvOp : Op → Option AOp
  | .move x | .assign x => (cvO x).map .mov
  | .pick c a b => match cvO c, cvO a, cvO b with
    | some c, some a, some b => some (.pick c a b)
    | _, _, _ => none
  | .alloc t => if szOf P t ≠ 0 then (zeroOf P t).map fun z => .box (szOf P t) (.c z) else none
  | .box t x => if szOf P t ≠ 0 then (cvO x).map fun a => .box (szOf P t) a else none
  | .build t ps => match P.underlying t with
    | some (.struct fs) => match zeroDs P t, cvParts P fs ps.toList with
      | some z, some as => if fs.toList.all fun f => szOf P f.type != 0 then some (.build (z.map .d) as) else none
      | _, _ => none
    | some (.array _ e) => match zeroDs P t, cvPartsA P e ps.toList with
      | some z, some as => if szOf P e ≠ 0 then some (.build (z.map .d) as) else none
      | _, _ => none
    | _ => none
  | .buildSlice t len ps => match P.underlying t with
    | some (.slice e) => match zeroDs P e, cvElems ps.toList with
      | some z, some as => if szOf P e ≠ 0 ∧ z.length = szOf P e ∧ len * szOf P e ≤ 2 ^ 24 then some (.buildSl (szOf P e) (z.map norm) len as) else none
      | _, _ => none
    | _ => none
  | .load t a => if szOf P t ≠ 0 then match aggOf P t, cvO a with
      | some g, some a => some (.load (szOf P t) g a)
      | _, _ => none
    else none
  | .store t a v => if szOf P t ≠ 0 then match cvO a, cvO v with
      | some a, some v => some (.store (szOf P t) a v)
      | _, _ => none
    else none
  | .nilCheck x => (cvO x).map .nilchk
  | .binOp op t x y _ => match cvO x, cvO y with
    | some a, some b => match P.underlying t with
      | some (.struct _) => match keyKind P t with
        | some (true, ks) => match op with
          | .eql => some (.eqagg ks false a b)
          | .neq => some (.eqagg ks true a b)
          | _ => none
        | _ => none
      | some (.int _) | some .string => some (.bin op a b)
      | some .bool => match op with
        | .eql => some (.binb false a b)
        | .neq => some (.binb true a b)
        | _ => none
      | some (.pointer _) => cvNil .p op a b
      | some (.slice _) => cvNil .s op a b
      | some (.map _ _) => cvNil .m op a b
      | some (.func _ _ _) => cvNil .f op a b
      | _ => none
    | _, _ => none
  | .unOp op _ x => (cvO x).map (.un op)
  | .convert s t x => match P.underlying s, P.underlying t with
    | some (.int _), some (.int k) => (cvO x).map (.toInt k)
    | some .string, some .string => (cvO x).map .same
    | some (.slice e), some .string => match P.underlying e with
      | some (.int .u8) => if szOf P e = 1 then (cvO x).map .toStr else none
      | _ => none
    | _, _ => none
  | .makeFunc (.func f) first captured => if first.isEmpty then (cvOs captured.toList).map fun cs => .mkfn f cs else none
  | .makeMap t none => match P.underlying t with
    | some (.map kt _) => (keyKind P kt).map fun q => .mkmap q.1 q.2
    | _ => none
  | .makeSlice t l c => match P.underlying t with
    | some (.slice e) => match zeroDs P e, cvO l, cvO c with
      | some z, some l, some c => if szOf P e ≠ 0 ∧ z.length = szOf P e ∧ P.bytesOf e ≤ 256 then some (.mksl (szOf P e) (z.map norm) l c) else none
      | _, _, _ => none
    | _ => none
  | .slice t x lo hi mx => match cvO x, cvM lo, cvM hi, cvM mx with
    | some x, some lo, some hi, some mx => match P.underlying t with
      | some .string => if mx.isNone then some (.slstr x lo hi) else none
      | some (.slice e) => if szOf P e ≠ 0 ∧ (mx.isNone ∨ hi.isSome) then some (.slice (szOf P e) x lo hi mx) else none
      | _ => none
    | _, _, _, _ => none
  | .fieldAddr t x i => match P.underlying t with
    | some (.struct fs) => match fs[i]? with
      | some f => if szOf P f.type ≠ 0 then (cvO x).map (.faddr f.offset) else none
      | none => none
    | _ => none
  | .field t x i => match P.underlying t with
    | some (.struct fs) => match fs[i]? with
      | some f => if szOf P f.type ≠ 0 then match aggOf P f.type, cvO x with
          | some g, some x => some (.field f.offset (szOf P f.type) g x)
          | _, _ => none
        else none
      | none => none
    | _ => none
  | .indexAddr t x i => match P.underlying t with
    | some (.array n e) => if szOf P e ≠ 0 then match cvO x, cvO i with
        | some x, some i => some (.iarr n (szOf P e) x i)
        | _, _ => none
      else none
    | some (.slice e) => if szOf P e ≠ 0 then match cvO x, cvO i with
        | some x, some i => some (.iaddr (szOf P e) x i)
        | _, _ => none
      else none
    | _ => none
  | .index t x i => match P.underlying t with
    | some (.array n e) => if szOf P e ≠ 0 then match aggOf P e, cvO x, cvO i with
        | some g, some x, some i => some (.fidx n (szOf P e) g x i)
        | _, _, _ => none
      else none
    | some .string => match cvO x, cvO i with
      | some x, some i => some (.idx x i)
      | _, _ => none
    | _ => none
  | .lookup t x k ok => match P.underlying t with
    | some (.map kt e) => match keyKind P kt, zeroOf P e, cvO x, cvO k with
        | some q, some z, some x, some k => some (.lookup q.1 q.2 (normA z) x k ok)
        | _, _, _, _ => none
    | _ => none
  | .mapUpdate t m k v | .insert t m k v => match P.underlying t with
    | some (.map kt _) => match keyKind P kt, cvO m, cvO k, cvO v with
        | some q, some m, some k, some v => some (.mapupd q.1 q.2 m k v)
        | _, _, _, _ => none
    | _ => none
  | .extract x i => (cvO x).map fun a => .extract a i
  | .call c => cvCall P c
  | .makeInterface t x => match P.underlying t with
    | some (.int _) => (cvO x).map (.mkif t)
    | _ => none
  | _ => none

def cvGuard (ops : Array Oper) : Option (Nat × Bool) → Option (Option (Nat × Bool))
  | none => some none
  | some (j, b) => match (ops[j]?).bind (·.dst) with
    | some d => some (some (d, b))
    | none => none

def befOf (m : Nat) (i : Nat) : List Nat := (List.range i).filter fun j => m.testBit j

def cvOper (ops : Array Oper) (dr : Bool) (bs : Array Nat) (o : Oper) (i : Nat) : AOper :=
  match cvGuard ops o.guard, cvOp P o.op with
  | some g, some a => { dst := o.dst, op := a, guard := g, bef := if dr then befOf (bs.getD i 0) i else [] }
  | _, _ => { dst := o.dst, op := .bad, guard := none, bef := [] }

def cvOpers (ops : Array Oper) (dr : Bool) (bs : Array Nat) : List Oper → Nat → List AOper
  | [], _ => []
  | o :: r, i => cvOper P ops dr bs o i :: cvOpers ops dr bs r (i + 1)

def usesOf (ops : Array Oper) (o : Oper) : List Nat :=
  (o.op.operands.toList.filterMap fun | .tmp t => some t | _ => none) ++ (match o.guard with
   | some (g, _) => ((ops[g]?).bind (·.dst)).toList
   | none => [])

/-- in a region whose order is open: what names one slot stands in an order -/
def slotsOK (ops : Array Oper) (bs : Array Nat) : Bool :=
  (List.range ops.size).all fun j => (List.range j).all fun i =>
    ((bs.getD j 0).testBit i) || match ops[i]?, ops[j]? with
      | some x, some y =>
        (match x.dst with | some d => !(usesOf ops y).contains d && y.dst != some d | none => true) &&
        (match y.dst with | some d => !(usesOf ops x).contains d | none => true)
      | _, _ => false

/-- what an operation waits for stands ahead of it -/
def edgesOK (ops : Array Oper) : Bool :=
  (List.range ops.size).all fun i => match ops[i]? with
    | some o => o.after.all fun e => !Region.binds .any e || decide (e.on < i)
    | none => true

def cvCode : Code → ACode
  | .skip => .skip
  | .region id ops dr =>
    if !dr || (edgesOK ops && slotsOK ops (Region.before ops) && P.follows .mixedOrders) then .region id (cvOpers P ops dr (if dr then Region.before ops else #[]) ops.toList 0) dr else .bad
  | .seq a b => .seq (cvCode a) (cvCode b)
  | .cond c a b => match cvO c with
    | some x => .cond x (cvCode a) (cvCode b)
    | none => .bad
  | .block id c => .block id (cvCode c)
  | .loop c => .loop ⟨[], []⟩ (cvCode c)
  | .exit id => .exit id
  | .ret => .ret
  | .goto l => .goto l
  | .scope (.seq p (.seq (.label l) b)) => if (findLabel p l).isNone then .scope l ⟨[], []⟩ (cvCode p) (cvCode b) else .bad
  | _ => .bad

def cvRes : ResultVar → ARes
  | .tmp t => .tmp t
  | .cell a t => .cell a (szOf P t) (isAgg? P t)

end

def bare : ACode → ACode
  | .seq a b => .seq (bare a) (bare b)
  | .cond c a b => .cond c (bare a) (bare b)
  | .guard p c a b => .seq (.seq (bare p) (.cond c (bare a) .skip)) (bare b)
  | .block id c => .block id (bare c)
  | .loop _ c => .loop ⟨[], []⟩ (bare c)
  | .scope l _ p b => .scope l ⟨[], []⟩ (bare p) (bare b)
  | .mask _ c => bare c
  | c => c

/-- 'fn' is function f of P, but for masks -/
def Shows (P : Program) (f : Nat) (fn : AFunc) : Prop :=
  ∃ F c, P.funcs[f]? = some F ∧ F.body = some c ∧ bare fn.body = bare (cvCode P c) ∧ fn.ntmps = F.ntmps ∧ fn.results.filter (fun r => !isFin r) = F.results.toList.map (cvRes P) ∧
    (F.results.toList.all fun | .cell _ t => (aggOf P t).isSome && szOf P t != 0 | _ => true) = true ∧ (F.name == "runtime.NumGoroutine") = false

/-- a table of functions -/
def tableAt : List (Nat × AFunc) → Nat → Option AFunc
  | [], _ => none
  | (k, c) :: r, f => match Nat.beq f k with
    | true => some c
    | false => tableAt r f

def TableOK (P : Program) : List (Nat × AFunc) → Prop
  | [] => True
  | (k, c) :: r => Shows P k c ∧ TableOK P r

theorem tableAt_ok {P : Program} : ∀ {l : List (Nat × AFunc)}, TableOK P l → ∀ {f : Nat} {fn : AFunc}, tableAt l f = some fn → Shows P f fn
  | [], _, f, fn, h => by cases h
  | (k, c) :: r, ⟨h1, h2⟩, f, fn, h => by
    simp only [tableAt] at h
    split at h
    · rename_i e
      have := Nat.eq_of_beq_eq_true e
      subst this; cases h; exact h1
    · exact tableAt_ok h2 h

end Bz

/- How the clean machine's values stand to the model's: relations, and what keeps them. -/
namespace Bz
open Go

def Flat : Value → Prop
  | .agg _ => False
  | .tuple _ => False
  | _ => True

/-! ### addresses -/
theorem add_add (a : Addr) (j k : Nat) : (a.add j).add k = a.add (j + k) := by
  unfold Addr.add
  by_cases hj : j = 0
  · subst hj; simp
  · by_cases hk : k = 0
    · subst hk; simp
    · simp [hj, hk, Nat.add_assoc]

theorem add_block (a : Addr) (j : Nat) : (a.add j).block = a.block := by
  unfold Addr.add; split <;> rfl

theorem cell_congr {w w' : World} {p : Addr} (h : w'.heap[p.block]? = w.heap[p.block]?) : w'.cell? p = w.cell? p := by
  unfold World.cell?; rw [h]

/-- names: where an object stands, and which blocks are led to from it alone -/
structure Nm where
  at_ : Nat → Nat
  hid : Nat → Nat → Prop

instance : CoeFun Nm (fun _ => Nat → Nat) := ⟨Nm.at_⟩

def Nm.zero : Nm := ⟨fun _ => 0, fun _ _ => False⟩
def Nm.via (ρ : Nm) (g : Nat → Nat) : Nm := ⟨fun j => ρ (g j), fun j => ρ.hid (g j)⟩

/-- an object's own blocks -/
def Ftp (ρ : Nm) (l b : Nat) : Prop := ρ l = b ∨ ρ.hid l b

/-! ### data -/
inductive RelD (S : Nat → Prop) (w : World) : D → Value → Prop
  | int (k : IntKind) (n : Int) : RelD S w (.int k n) (.int k n)
  | bool (b : Bool) : RelD S w (.bool b) (.bool b)
  | str (s : List UInt8) : RelD S w (.str s) (.string ⟨s.toArray⟩)
  | nilp : RelD S w .nilp (.pointer none)
  | nilm : RelD S w .nilm (.map none)
  | nilf : RelD S w .nilf .nilFunc
  | nili : RelD S w .nili .nilIface
  | ifc (t : Nat) (x : D) (v : Value) : RelD S w x v → RelD S w (.ifc t x) (.iface t v)
  | vnil (t : Bool) (b : Option Addr) : RelD S w (.vs t []) (.slice b 0 0)
  | vs (a : Addr) (sz cap : Nat) (es : List (List D)) (xs : Nat → Nat → Value) :
      es.length ≤ cap → (∀ c ∈ es, c.length = sz) → (es ≠ [] → S a.block) →
      (∀ i j c, es[i]? = some c → j < sz → w.cell? (a.add (i * sz + j)) = some (xs i j)) →
      (∀ i j c x, es[i]? = some c → c[j]? = some x → RelD S w x (xs i j)) →
      RelD S w (.vs false es) (.slice (some a) es.length cap)

theorem RelD.flat {S : Nat → Prop} {w : World} {x : D} {v : Value} (h : RelD S w x v) : Flat v := by
  cases h <;> trivial

theorem RelD.mono {S S' : Nat → Prop} {w w' : World} {x : D} {v : Value} (h : RelD S w x v) (hS : ∀ b, S b → S' b)
    (hw : ∀ b, S b → w'.heap[b]? = w.heap[b]?) : RelD S' w' x v := by
  induction h with
  | int => exact .int _ _
  | bool => exact .bool _
  | str => exact .str _
  | nilp => exact .nilp
  | nilm => exact .nilm
  | nilf => exact .nilf
  | nili => exact .nili
  | ifc t x v _ ih => exact .ifc t x v ih
  | vnil t b => exact .vnil t b
  | vs a sz cap es xs h1 h2 h3 h4 _ ih =>
    refine .vs a sz cap es xs h1 h2 (fun h => hS _ (h3 h)) (fun i j c hi hj => ?_) ih
    rw [cell_congr (w := w)]
    · exact h4 i j c hi hj
    · rw [add_block]
      exact hw _ (h3 (by intro e; simp [e] at hi))

theorem RelD.norm {S : Nat → Prop} {w : World} {x : D} {v : Value} (h : RelD S w x v) : RelD S w (norm x) v := by
  cases h with
  | vnil t b => exact .vnil false b
  | vs a sz cap es xs h1 h2 h3 h4 h5 => exact .vs a sz cap es xs h1 h2 h3 h4 h5
  | int => exact .int _ _
  | bool => exact .bool _
  | str => exact .str _
  | nilp => exact .nilp
  | nilm => exact .nilm
  | nilf => exact .nilf
  | nili => exact .nili
  | ifc t x v h => exact .ifc t x v h

/-- What is led to from one place alone: F holds the blocks that it stands in. -/
inductive RelO (S : Nat → Prop) (w : World) : (Nat → Prop) → O → Value → Prop
  | d (F : Nat → Prop) (x : D) (v : Value) : RelD S w x v → RelO S w F (.d x) v
  | own (F : Nat → Prop) (b : Nat) (T : TypeId) (cs : List O) (vs : Array Value) (xs : Nat → Value) (G : Nat → Nat → Prop) :
      w.heap[b]? = some (.cells vs T (0, 0)) → vs.size = cs.length → F b →
      (∀ j x, cs[j]? = some x → vs[j]? = some (xs j) ∧ Flat (xs j)) →
      (∀ j c, j < cs.length → G j c → F c ∧ c ≠ b) → (∀ i j c, i < cs.length → j < cs.length → G i c → G j c → i = j) →
      (∀ j x, cs[j]? = some x → RelO S w (G j) x (xs j)) →
      RelO S w F (.own cs) (.pointer (some ⟨b, 0, none⟩))
  | osl (F : Nat → Prop) (b : Nat) (T : TypeId) (sz len cap : Nat) (es : List (List O)) (vs : Array Value) (xs : Nat → Value) (G : Nat → Nat → Prop) :
      w.heap[b]? = some (.cells vs T (0, 0)) → F b → 0 < sz → es ≠ [] → len ≤ es.length → es.length ≤ cap → cap * sz ≤ vs.size →
      (∀ c ∈ es, c.length = sz) →
      (∀ i j c x, es[i]? = some c → c[j]? = some x → vs[i * sz + j]? = some (xs (i * sz + j)) ∧ Flat (xs (i * sz + j))) →
      (∀ j c, j < es.length * sz → G j c → F c ∧ c ≠ b) → (∀ i j c, i < es.length * sz → j < es.length * sz → G i c → G j c → i = j) →
      (∀ i j c x, es[i]? = some c → c[j]? = some x → RelO S w (G (i * sz + j)) x (xs (i * sz + j))) →
      RelO S w F (.osl sz len es) (.slice (some ⟨b, 0, none⟩) len cap)

theorem RelO.flat {S F : Nat → Prop} {w : World} {x : O} {v : Value} (h : RelO S w F x v) : Flat v := by
  cases h with
  | d _ _ _ h => exact h.flat
  | own => trivial
  | osl => trivial

theorem RelO.mono {S S' F F' : Nat → Prop} {w w' : World} {x : O} {v : Value} (h : RelO S w F x v) (hS : ∀ b, S b → S' b)
    (hw : ∀ b, S b → w'.heap[b]? = w.heap[b]?) (hF : ∀ b, F b → w'.heap[b]? = w.heap[b]?) (hFF : ∀ b, F b → F' b) : RelO S' w' F' x v := by
  induction h generalizing F' with
  | d F x v h => exact .d _ _ _ (h.mono hS hw)
  | own F b T cs vs xs G h1 h2 h3 h4 h5 h6 h7 ih =>
    refine .own F' b T cs vs xs G ((hF _ h3).trans h1) h2 (hFF _ h3) h4 (fun j c hj hg => ⟨hFF _ (h5 j c hj hg).1, (h5 j c hj hg).2⟩) h6 fun j x hj => ?_
    have hlt := (List.getElem?_eq_some_iff.1 hj).1
    exact ih j x hj (fun c hc => hF _ (h5 j c hlt hc).1) (fun _ h => h)
  | osl F b T sz len cap es vs xs G h1 h2 h3 h4 h5 h6 h7 h8 h9 h10 h11 h12 ih =>
    refine .osl F' b T sz len cap es vs xs G ((hF _ h2).trans h1) (hFF _ h2) h3 h4 h5 h6 h7 h8 h9 (fun j c hj hg => ⟨hFF _ (h10 j c hj hg).1, (h10 j c hj hg).2⟩) h11 fun i j c x hi hj => ?_
    have hlt := (List.getElem?_eq_some_iff.1 hi).1
    have hjl : j < sz := by rw [← h8 c (List.mem_of_getElem? hi)]; exact (List.getElem?_eq_some_iff.1 hj).1
    have hb : i * sz + j < es.length * sz := by
      have : (i + 1) * sz ≤ es.length * sz := Nat.mul_le_mul_right _ hlt
      rw [Nat.add_mul, Nat.one_mul] at this
      omega
    exact ih i j c x hi hj (fun c hc => hF _ (h10 _ c hb hc).1) (fun _ h => h)

/-! ### memory of the clean machine -/
theorem hget_hset (H : Heap) (l k : Nat) (o : AObj) : hget (hset H l o) k = if k = l then some o else hget H k := by
  induction H with
  | nil => simp [hset, hget]
  | cons p r ih =>
    obtain ⟨m, q⟩ := p
    by_cases h : l = m
    · subst h; by_cases hk : k = l <;> simp [hset, hget, hk]
    · by_cases hk : k = m
      · subst hk; simp [hset, hget, h]; intro e; exact absurd e.symm h
      · simp [hset, hget, h, hk, ih]

theorem hget_set_self (H : Heap) (l : Nat) (o : AObj) : hget (hset H l o) l = some o := by simp [hget_hset]
theorem hget_set_ne (H : Heap) {l k : Nat} (o : AObj) (h : k ≠ l) : hget (hset H l o) k = hget H k := by simp [hget_hset, h]

def isLive : AObj → Bool
  | .fz _ _ => false
  | .arr _ es => !es.isEmpty
  | .oar _ es => !es.isEmpty
  | _ => true

/-- has it a place in memory? -/
def isReal : AObj → Bool
  | .fz _ es => !es.isEmpty
  | .arr _ es => !es.isEmpty
  | .oar _ es => !es.isEmpty
  | _ => true

theorem live_real {o : AObj} (h : isLive o = true) : isReal o = true := by cases o <;> simp_all [isLive, isReal]

def Live (H : Heap) (l : Nat) : Prop := ∃ o, hget H l = some o ∧ isLive o = true
/-- a row's element size, and how many -/
def rowsOf : AObj → Option (Nat × Nat)
  | .arr sz es => some (sz, es.length)
  | .fz sz es => some (sz, es.length)
  | .oar sz es => some (sz, es.length)
  | _ => none
def Cnt (H : Heap) (l sz m : Nat) : Prop := ∃ o, hget H l = some o ∧ rowsOf o = some (sz, m)
/-- a row of data -/
def CntD (H : Heap) (l sz m : Nat) : Prop := ∃ es, (hget H l = some (.arr sz es) ∨ hget H l = some (.fz sz es)) ∧ es.length = m
theorem cnt_arr {H : Heap} {l sz m : Nat} {es : List (List D)} (h : hget H l = some (.arr sz es)) (hm : es.length = m) : Cnt H l sz m := ⟨_, h, by simp [rowsOf, hm]⟩
theorem cnt_fz {H : Heap} {l sz m : Nat} {es : List (List D)} (h : hget H l = some (.fz sz es)) (hm : es.length = m) : Cnt H l sz m := ⟨_, h, by simp [rowsOf, hm]⟩
theorem cnt_oar {H : Heap} {l sz m : Nat} {es : List (List AV)} (h : hget H l = some (.oar sz es)) (hm : es.length = m) : Cnt H l sz m := ⟨_, h, by simp [rowsOf, hm]⟩
theorem cnt_of {H : Heap} {l sz m : Nat} {o : AObj} (h : hget H l = some o) (hc : Cnt H l sz m) : rowsOf o = some (sz, m) := by
  obtain ⟨q, h1, h2⟩ := hc
  rw [h] at h1; cases h1; exact h2
theorem cnt_none {H : Heap} {l sz m : Nat} (h : hget H l = none) (hc : Cnt H l sz m) : False := by
  obtain ⟨q, h1, _⟩ := hc
  rw [h] at h1; cases h1
def IsVar (H : Heap) (l : Nat) : Prop := ∃ cs, hget H l = some (.var cs)
def IsMp (H : Heap) (l : Nat) : Prop := ∃ ag ks es, hget H l = some (.mp ag ks es)

def OSV (ρ : Nm) (w : World) (l sz off len : Nat) (v : Value) : Prop :=
  ∃ a cap cs T fr, v = .slice (some a) len cap ∧ len ≤ cap ∧ (cap = 0 ∨ a = ⟨ρ l, off * sz, none⟩) ∧ w.heap[ρ l]? = some (.cells cs T fr) ∧ (cap = 0 ∨ (off + cap) * sz ≤ cs.size)

/-- a slice's room reaches to the row's end -/
def CapTo (n off : Nat) (v : Value) : Prop := ∀ a len cap, v = .slice a len cap → n ≤ off + cap

/-- a slice of a row of n elements; a row of none is nowhere -/
def OSN (ρ : Nm) (w : World) (l sz n off len : Nat) (v : Value) : Prop :=
  (n = 0 ∧ len = 0 ∧ ∃ b, v = .slice b 0 0) ∨ ((n ≠ 0 ∧ CapTo n off v) ∧ OSV ρ w l sz off len v)

inductive RelA (ρ : Nm) (S : Nat → Prop) (H : Heap) (w : World) : AV → Value → Prop
  | undef (v : Value) : RelA ρ S H w .undef v
  | anyb (b : Bool) : RelA ρ S H w .anyb (.bool b)
  | ow (t : O) (v : Value) : RelA ρ S H w (.ow t) v
  | d (x : D) (v : Value) : RelD S w x v → RelA ρ S H w (.d x) v
  | os (l n off len : Nat) (v : Value) : Flat v → (∀ sz m, Cnt H l sz m → n ≤ m ∧ (n = m → OSN ρ w l sz n off len v)) → RelA ρ S H w (.os l n off len) v
  | pv (l j : Nat) (v : Value) : Flat v → (IsVar H l → v = .pointer (some ⟨ρ l, j, none⟩)) → RelA ρ S H w (.pv l j) v
  | pa (l n i j : Nat) (v : Value) : Flat v → (∀ sz m, Cnt H l sz m → n ≤ m ∧ (n = m → v = .pointer (some ⟨ρ l, i * sz + j, none⟩))) → RelA ρ S H w (.pa l n i j) v
  | vp (c : List D) (j : Nat) (a : Addr) (xs : Nat → Value) : S a.block → (∀ i x, c[i]? = some x → w.cell? (a.add i) = some (xs i)) →
      (∀ i x, c[i]? = some x → RelD S w x (xs i)) → RelA ρ S H w (.vp c j) (.pointer (some (a.add j)))
  | map (l : Nat) (v : Value) : Flat v → (IsMp H l → v = .map (some (ρ l))) → RelA ρ S H w (.map l) v
  | fn (f : Nat) (cs : List AV) (vs : Array Value) (ys : Nat → Value) : cs.length = vs.size → (∀ i x, cs[i]? = some x → vs[i]? = some (ys i)) →
      (∀ i x, cs[i]? = some x → RelA ρ S H w x (ys i)) → RelA ρ S H w (.fn f cs) (.func (.func f) #[] vs)
  | agg (cs : List AV) (vs : Array Value) (ys : Nat → Value) : cs.length = vs.size → (∀ i x, cs[i]? = some x → vs[i]? = some (ys i)) →
      (∀ i x, cs[i]? = some x → RelA ρ S H w x (ys i)) → RelA ρ S H w (.agg cs) (.agg vs)
  | tup (cs : List AV) (vs : Array Value) (ys : Nat → Value) : cs.length = vs.size → (∀ i x, cs[i]? = some x → vs[i]? = some (ys i)) →
      (∀ i x, cs[i]? = some x → RelA ρ S H w x (ys i)) → RelA ρ S H w (.tup cs) (.tuple vs)

/-! ### lists of values -/
theorem refsL_mem {cs : List AV} {i : Nat} {x : AV} (h : cs[i]? = some x) : ∀ l ∈ refs x, l ∈ refsL cs := by
  induction cs generalizing i with
  | nil => simp at h
  | cons a r ih =>
    intro l hl
    simp only [refsL, List.mem_append]
    cases i with
    | zero => simp at h; subst h; exact .inl hl
    | succ i => simp at h; exact .inr (ih h l hl)

theorem renL_get (g : Nat → Nat) (cs : List AV) (i : Nat) : (renL g cs)[i]? = (cs[i]?).map (ren g) := by
  induction cs generalizing i with
  | nil => simp [renL]
  | cons a r ih => cases i <;> simp [renL, ih]

theorem renL_length (g : Nat → Nat) (cs : List AV) : (renL g cs).length = cs.length := by
  induction cs with
  | nil => simp [renL]
  | cons a r ih => simp [renL, ih]

mutual
theorem ren_id : ∀ v : AV, ren (fun l => l) v = v
  | .undef => rfl
  | .d _ => rfl
  | .os .. => rfl
  | .pv .. => rfl
  | .pa .. => rfl
  | .vp .. => rfl
  | .anyb => rfl
  | .ow _ => rfl
  | .map _ => rfl
  | .fn f cs => by simp only [ren, renL_id cs]
  | .agg cs => by simp only [ren, renL_id cs]
  | .tup cs => by simp only [ren, renL_id cs]
theorem renL_id : ∀ cs : List AV, renL (fun l => l) cs = cs
  | [] => rfl
  | v :: r => by simp only [renL, ren_id v, renL_id r]
end

def Comp (ρ : Nm) (H : Heap) (l : Nat) (ρ' : Nm) (H' : Heap) (l' : Nat) : Prop :=
  (∀ sz m', Cnt H' l' sz m' → ∃ m, Cnt H l sz m ∧ m ≤ m' ∧ (m = m' → ρ' l' = ρ l)) ∧ (IsVar H' l' → IsVar H l ∧ ρ' l' = ρ l) ∧ (IsMp H' l' → IsMp H l ∧ ρ' l' = ρ l)

theorem Comp.refl (ρ : Nm) (H : Heap) (l : Nat) : Comp ρ H l ρ H l :=
  ⟨fun _ m h => ⟨m, h, Nat.le_refl _, fun _ => rfl⟩, fun h => ⟨h, rfl⟩, fun h => ⟨h, rfl⟩⟩

theorem Comp.trans {ρ ρ1 ρ2 : Nm} {H H1 H2 : Heap} {l l1 l2 : Nat} (h : Comp ρ H l ρ1 H1 l1) (h' : Comp ρ1 H1 l1 ρ2 H2 l2) : Comp ρ H l ρ2 H2 l2 := by
  refine ⟨fun sz m' hc => ?_, fun hv => ?_, fun hv => ?_⟩
  · obtain ⟨m1, c1, le1, e1⟩ := h'.1 sz m' hc
    obtain ⟨m, c, le, e⟩ := h.1 sz m1 c1
    exact ⟨m, c, Nat.le_trans le le1, fun hm => by rw [e1 (by omega), e (by omega)]⟩
  · obtain ⟨a, b⟩ := h'.2.1 hv
    obtain ⟨c, d⟩ := h.2.1 a
    exact ⟨c, b.trans d⟩
  · obtain ⟨a, b⟩ := h'.2.2 hv
    obtain ⟨c, d⟩ := h.2.2 a
    exact ⟨c, b.trans d⟩

def Grow (w w' : World) : Prop := ∀ (b : Nat) (cs : Array Value) (T : TypeId) (fr : Nat × Nat), w.heap[b]? = some (.cells cs T fr) → ∃ cs' fr', w'.heap[b]? = some (.cells cs' T fr') ∧ cs'.size = cs.size

theorem Grow.refl (w : World) : Grow w w := fun _ cs _ fr h => ⟨cs, fr, h, rfl⟩
theorem Grow.trans {w w1 w2 : World} (h : Grow w w1) (h' : Grow w1 w2) : Grow w w2 := fun b cs T fr hb => by
  obtain ⟨c1, f1, h1, e1⟩ := h b cs T fr hb
  obtain ⟨c2, f2, h2, e2⟩ := h' b c1 T f1 h1
  exact ⟨c2, f2, h2, e2.trans e1⟩

theorem RelA.trans {ρ ρ' : Nm} {S S' : Nat → Prop} {H H' : Heap} {w w' : World} {v : AV} {x : Value} (g : Nat → Nat) (h : RelA ρ S H w v x)
    (hS : ∀ b, S b → S' b) (hw : ∀ b, S b → w'.heap[b]? = w.heap[b]?) (hg : Grow w w') (hc : ∀ l ∈ refs v, Comp ρ H l ρ' H' (g l)) :
    RelA ρ' S' H' w' (ren g v) x := by
  induction h with
  | undef v => exact .undef v
  | anyb b => exact .anyb b
  | ow t v => exact .ow t v
  | d x v h => exact .d x v (h.mono hS hw)
  | os l n off len v hf h =>
    have c := hc l (by simp [refs])
    refine .os _ _ _ _ _ hf fun sz m' hm' => ?_
    obtain ⟨m, hm, le, e⟩ := c.1 sz m' hm'
    obtain ⟨le', h⟩ := h sz m hm
    refine ⟨by omega, fun en => ?_⟩
    rcases h (by omega) with h | ⟨hn, a, cap, cs, T, fr, h1, h2, h3, h4, h5⟩
    · exact .inl h
    refine .inr ⟨hn, ?_⟩
    obtain ⟨cs', fr', h6, h7⟩ := hg _ _ _ _ h4
    have er := e (by omega)
    exact ⟨a, cap, cs', T, fr', h1, h2, by rw [er]; exact h3, by rw [er]; exact h6, by rw [h7]; exact h5⟩
  | pv l j v hf h =>
    have c := hc l (by simp [refs])
    refine .pv _ _ _ hf fun hv => ?_
    obtain ⟨a, b⟩ := c.2.1 hv
    rw [b]; exact h a
  | pa l n i j v hf h =>
    have c := hc l (by simp [refs])
    refine .pa _ _ _ _ _ hf fun sz m' hm' => ?_
    obtain ⟨m, hm, le, e⟩ := c.1 sz m' hm'
    obtain ⟨le', h⟩ := h sz m hm
    exact ⟨by omega, fun en => by rw [e (by omega)]; exact h (by omega)⟩
  | vp c j a xs h1 h2 h3 =>
    refine .vp c j a xs (hS _ h1) (fun i x hi => ?_) (fun i x hi => (h3 i x hi).mono hS hw)
    rw [cell_congr (w := w)]
    · exact h2 i x hi
    · rw [add_block]; exact hw _ h1
  | map l v hf h =>
    have c := hc l (by simp [refs])
    refine .map _ _ hf fun hv => ?_
    obtain ⟨a, b⟩ := c.2.2 hv
    rw [b]; exact h a
  | fn f cs vs ys h1 h2 _ ih =>
    refine .fn f _ vs ys (by rw [renL_length]; exact h1) (fun i x hi => ?_) (fun i x hi => ?_)
    · rw [renL_get] at hi
      obtain ⟨y, hy, _⟩ := Option.map_eq_some_iff.1 hi
      exact h2 i y hy
    · rw [renL_get] at hi
      obtain ⟨y, hy, rfl⟩ := Option.map_eq_some_iff.1 hi
      exact ih i y hy (fun l hl => hc l (by simp only [refs]; exact refsL_mem hy l hl))
  | agg cs vs ys h1 h2 _ ih =>
    refine .agg _ vs ys (by rw [renL_length]; exact h1) (fun i x hi => ?_) (fun i x hi => ?_)
    · rw [renL_get] at hi
      obtain ⟨y, hy, _⟩ := Option.map_eq_some_iff.1 hi
      exact h2 i y hy
    · rw [renL_get] at hi
      obtain ⟨y, hy, rfl⟩ := Option.map_eq_some_iff.1 hi
      exact ih i y hy (fun l hl => hc l (by simp only [refs]; exact refsL_mem hy l hl))
  | tup cs vs ys h1 h2 _ ih =>
    refine .tup _ vs ys (by rw [renL_length]; exact h1) (fun i x hi => ?_) (fun i x hi => ?_)
    · rw [renL_get] at hi
      obtain ⟨y, hy, _⟩ := Option.map_eq_some_iff.1 hi
      exact h2 i y hy
    · rw [renL_get] at hi
      obtain ⟨y, hy, rfl⟩ := Option.map_eq_some_iff.1 hi
      exact ih i y hy (fun l hl => hc l (by simp only [refs]; exact refsL_mem hy l hl))

/-- in place -/
theorem RelA.keep {ρ ρ' : Nm} {S S' : Nat → Prop} {H H' : Heap} {w w' : World} {v : AV} {x : Value} (h : RelA ρ S H w v x)
    (hS : ∀ b, S b → S' b) (hw : ∀ b, S b → w'.heap[b]? = w.heap[b]?) (hg : Grow w w') (hc : ∀ l ∈ refs v, Comp ρ H l ρ' H' l) :
    RelA ρ' S' H' w' v x := by
  have := h.trans (ρ' := ρ') (S' := S') (H' := H') (w' := w') (fun l => l) hS hw hg hc
  rwa [ren_id] at this

/-! ### the invariant -/
/-- cells, as they stand in a block -/
def RowAt (S : Nat → Prop) (w : World) (sz : Nat) (es : List (List D)) (vs : Array Value) : Prop :=
  es.length * sz ≤ vs.size ∧ ∀ (i : Nat) (c : List D), es[i]? = some c → c.length = sz ∧ ∀ (j : Nat) (x : D), c[j]? = some x → ∃ v, vs[i * sz + j]? = some v ∧ RelD S w x v

/-- entries' stamps: each its own, all older than the clock -/
def Born (ents : Array MapEntry) (clk : Nat) : Prop := (ents.toList.map (·.born)).Nodup ∧ ∀ e ∈ ents.toList, e.born < clk

/-- cells' own blocks stand apart -/
def Split (K : Nat → Prop) (n : Nat) (G : Nat → Nat → Prop) : Prop := (∀ j c, j < n → G j c → K c) ∧ ∀ i j c, i < n → j < n → G i c → G j c → i = j

/-- a cell that may be led to from here alone -/
def CellR (ρ : Nm) (S : Nat → Prop) (H : Heap) (w : World) (G : Nat → Prop) : AV → Value → Prop
  | .ow t, v => RelO S w G t v
  | x, v => RelA ρ S H w x v

def ObjAt (ρ : Nm) (S : Nat → Prop) (H : Heap) (w : World) (K : Nat → Prop) (b : Nat) : AObj → Prop
  | .var cs => ∃ (vs : Array Value) (T : TypeId), w.heap[b]? = some (.cells vs T (0, 0)) ∧ vs.size = cs.length ∧ ∃ G, Split K cs.length G ∧
      ∀ (j : Nat) (x : AV), cs[j]? = some x → ∃ v, vs[j]? = some v ∧ Flat v ∧ CellR ρ S H w (G j) x v
  | .arr sz es => 0 < sz ∧ (es ≠ [] → ∃ (vs : Array Value) (T : TypeId), w.heap[b]? = some (.cells vs T (0, 0)) ∧ RowAt S w sz es vs)
  | .fz sz es => 0 < sz ∧ (es ≠ [] → S b ∧ ∃ (vs : Array Value) (T : TypeId) (fr : Nat × Nat), w.heap[b]? = some (.cells vs T fr) ∧ RowAt S w sz es vs)
  | .oar sz es => 0 < sz ∧ (∀ c ∈ es, c.length = sz) ∧ (es ≠ [] → ∃ (vs : Array Value) (T : TypeId), w.heap[b]? = some (.cells vs T (0, 0)) ∧ es.length * sz ≤ vs.size ∧ ∃ G, Split K (es.length * sz) G ∧
      ∀ (i : Nat) (c : List AV), es[i]? = some c → ∀ (j : Nat) (x : AV), c[j]? = some x → ∃ v, vs[i * sz + j]? = some v ∧ Flat v ∧ CellR ρ S H w (G (i * sz + j)) x v)
  | .mp ag ks es => ∃ (ents : Array MapEntry) (clk : Nat), w.heap[b]? = some (.map ents clk) ∧ (ents.size = es.length ∧ Born ents clk) ∧
      ∀ (i : Nat) (k v : AV), es[i]? = some (k, v) → ∃ e : MapEntry, ents[i]? = some e ∧ keyOK ag ks k = true ∧ refs v = [] ∧ solid v = true ∧ RelA ρ S H w k e.key ∧ RelA ρ S H w v e.val

structure Inv (ρ : Nm) (S : Nat → Prop) (H : Heap) (w : World) : Prop where
  obj : ∀ (l : Nat) (o : AObj), hget H l = some o → ObjAt ρ S H w (ρ.hid l) (ρ l) o
  inj : ∀ l l' b, Live H l → Live H l' → Ftp ρ l b → Ftp ρ l' b → l = l'
  sep : ∀ l b, Live H l → Ftp ρ l b → ¬ S b
  dom : ∀ b, S b → b < w.heap.size
  hlt : ∀ l b, Live H l → ρ.hid l b → b < w.heap.size
  hno : ∀ l, Live H l → ¬ ρ.hid l (ρ l)

theorem lt_of_get {w : World} {b : Nat} {o : Obj} (e : w.heap[b]? = some o) : b < w.heap.size := by
  rcases Nat.lt_or_ge b w.heap.size with h | h
  · exact h
  · rw [Array.getElem?_eq_none h] at e; cases e

theorem ObjAt.lt {ρ : Nm} {S : Nat → Prop} {H : Heap} {w : World} {K : Nat → Prop} {b : Nat} {o : AObj} (h : ObjAt ρ S H w K b o) (hr : isReal o = true) : b < w.heap.size := by
  cases o with
  | var cs => obtain ⟨vs, T, e, _⟩ := h; exact lt_of_get e
  | arr sz es => obtain ⟨vs, T, e, _⟩ := h.2 (by simpa [isReal] using hr); exact lt_of_get e
  | fz sz es => obtain ⟨_, vs, T, fr, e, _⟩ := h.2 (by simpa [isReal] using hr); exact lt_of_get e
  | oar sz es => obtain ⟨vs, T, e, _⟩ := h.2.2 (by simpa [isReal] using hr); exact lt_of_get e
  | mp ag ks es => obtain ⟨ents, clk, e, _⟩ := h; exact lt_of_get e

theorem Inv.live_lt {ρ : Nm} {S : Nat → Prop} {H : Heap} {w : World} (h : Inv ρ S H w) {l : Nat} (hl : Live H l) : ρ l < w.heap.size := by
  obtain ⟨o, ho, hlo⟩ := hl
  exact (h.obj l o ho).lt (live_real hlo)

theorem Inv.foot_lt {ρ : Nm} {S : Nat → Prop} {H : Heap} {w : World} (h : Inv ρ S H w) {l b : Nat} (hl : Live H l) (hf : Ftp ρ l b) : b < w.heap.size := by
  rcases hf with rfl | hf
  · exact h.live_lt hl
  · exact h.hlt l b hl hf

theorem CellR.of {ρ : Nm} {S : Nat → Prop} {H : Heap} {w : World} {G : Nat → Prop} {x : AV} {v : Value} (h : RelA ρ S H w x v) (hx : ∀ t, x ≠ .ow t) : CellR ρ S H w G x v := by
  cases x <;> first | exact h | exact absurd rfl (hx _)

theorem CellR.rel {ρ : Nm} {S : Nat → Prop} {H : Heap} {w : World} {G : Nat → Prop} {x : AV} {v : Value} (h : CellR ρ S H w G x v) : RelA ρ S H w x v := by
  cases x <;> first | exact h | exact .ow _ _

theorem CellR.solid {ρ : Nm} {S : Nat → Prop} {H : Heap} {w : World} {G : Nat → Prop} {x : AV} {v : Value} (h : RelA ρ S H w x v) (hx : flatA x = true) : CellR ρ S H w G x v :=
  .of h fun t e => by subst e; cases hx

theorem CellR.keep {ρ ρ' : Nm} {S S' : Nat → Prop} {H H' : Heap} {w w' : World} {G G' : Nat → Prop} {v : AV} {x : Value} (h : CellR ρ S H w G v x)
    (hS : ∀ b, S b → S' b) (hw : ∀ b, S b → w'.heap[b]? = w.heap[b]?) (hg : Grow w w') (hG : ∀ b, G b → w'.heap[b]? = w.heap[b]?) (hGG : ∀ b, G b → G' b) (hc : ∀ l ∈ refs v, Comp ρ H l ρ' H' l) :
    CellR ρ' S' H' w' G' v x := by
  cases v <;> first | exact RelA.keep h hS hw hg hc | exact RelO.mono h hS hw hG hGG

theorem RowAt.mono {S S' : Nat → Prop} {w w' : World} {sz : Nat} {es : List (List D)} {vs : Array Value} (h : RowAt S w sz es vs) (hS : ∀ b, S b → S' b)
    (hw : ∀ b, S b → w'.heap[b]? = w.heap[b]?) : RowAt S' w' sz es vs :=
  ⟨h.1, fun i c hi => ⟨(h.2 i c hi).1, fun j x hj => by
    obtain ⟨v, hv, hr⟩ := (h.2 i c hi).2 j x hj
    exact ⟨v, hv, hr.mono hS hw⟩⟩⟩

theorem cellsOK_refs : ∀ {ks : List SK} {cs : List AV}, cellsOK ks cs = true → refsL cs = []
  | [], [], _ => rfl
  | s :: r, .d x :: q, h => by
    simp only [cellsOK, Bool.and_eq_true] at h
    simp [refsL, refs, cellsOK_refs h.2]
  | [], _ :: _, h => by simp [cellsOK] at h
  | _ :: _, [], h => by simp [cellsOK] at h
  | _ :: _, .undef :: _, h => by simp [cellsOK] at h
  | _ :: _, .os .. :: _, h => by simp [cellsOK] at h
  | _ :: _, .pv .. :: _, h => by simp [cellsOK] at h
  | _ :: _, .pa .. :: _, h => by simp [cellsOK] at h
  | _ :: _, .vp .. :: _, h => by simp [cellsOK] at h
  | _ :: _, .map _ :: _, h => by simp [cellsOK] at h
  | _ :: _, .fn .. :: _, h => by simp [cellsOK] at h
  | _ :: _, .agg _ :: _, h => by simp [cellsOK] at h
  | _ :: _, .tup _ :: _, h => by simp [cellsOK] at h

theorem keyOK_refs {ag : Bool} {ks : List SK} {k : AV} (h : keyOK ag ks k = true) : refs k = [] := by
  cases ag <;> cases k <;> simp [keyOK] at h
  · rfl
  · simp only [refs]; exact cellsOK_refs h

theorem row_lt {α : Type} {es : List (List α)} {i j sz : Nat} {c : List α} (hi : es[i]? = some c) (hc : c.length = sz) (hj : j < c.length) : i * sz + j < es.length * sz := by
  have hlt := (List.getElem?_eq_some_iff.1 hi).1
  have : (i + 1) * sz ≤ es.length * sz := Nat.mul_le_mul_right _ hlt
  rw [Nat.add_mul, Nat.one_mul] at this
  omega

theorem refsLL_mem {es : List (List AV)} {i j : Nat} {c : List AV} {x : AV} (hi : es[i]? = some c) (hj : c[j]? = some x) : ∀ l ∈ refs x, l ∈ refsLL es := by
  induction es generalizing i with
  | nil => simp at hi
  | cons a r ih =>
    intro l hl
    simp only [refsLL, List.mem_append]
    cases i with
    | zero => simp at hi; subst hi; exact .inl (refsL_mem hj l hl)
    | succ i => simp at hi; exact .inr (ih hi l hl)

/-- An object whose own block stays. -/
theorem ObjAt.keep {ρ ρ' : Nm} {S S' : Nat → Prop} {H H' : Heap} {w w' : World} {K : Nat → Prop} {b : Nat} {o : AObj} (h : ObjAt ρ S H w K b o)
    (hb : isReal o = true → w'.heap[b]? = w.heap[b]?) (hK : isLive o = true → ∀ c, K c → w'.heap[c]? = w.heap[c]?) (hS : ∀ b, S b → S' b) (hw : ∀ b, S b → w'.heap[b]? = w.heap[b]?) (hg : Grow w w') (hc : ∀ l ∈ refsO o, Comp ρ H l ρ' H' l) :
    ObjAt ρ' S' H' w' K b o := by
  cases o with
  | var cs =>
    obtain ⟨vs, T, e, hs, G, hG, h⟩ := h
    refine ⟨vs, T, (hb rfl).trans e, hs, G, hG, fun j x hj => ?_⟩
    obtain ⟨v, hv, hf, hr⟩ := h j x hj
    have hlt := (List.getElem?_eq_some_iff.1 hj).1
    exact ⟨v, hv, hf, hr.keep hS hw hg (fun c hc => hK rfl c (hG.1 j c hlt hc)) (fun _ h => h) fun l hl => hc l (refsL_mem hj l hl)⟩
  | oar sz es =>
    refine ⟨h.1, h.2.1, fun hne => ?_⟩
    obtain ⟨vs, T, e, hs, G, hG, hc'⟩ := h.2.2 hne
    refine ⟨vs, T, (hb (by simpa [isReal] using hne)).trans e, hs, G, hG, fun i c hi j x hj => ?_⟩
    obtain ⟨v, hv, hf, hr⟩ := hc' i c hi j x hj
    have hlt := row_lt hi (by rw [h.2.1 c (List.mem_of_getElem? hi)]) (List.getElem?_eq_some_iff.1 hj).1
    exact ⟨v, hv, hf, hr.keep hS hw hg (fun c hc => hK (by simpa [isLive] using hne) c (hG.1 _ c hlt hc)) (fun _ h => h) fun l hl => hc l (refsLL_mem hi hj l hl)⟩
  | arr sz es =>
    refine ⟨h.1, fun hne => ?_⟩
    obtain ⟨vs, T, e, h⟩ := h.2 hne
    exact ⟨vs, T, (hb (by simpa [isReal] using hne)).trans e, h.mono hS hw⟩
  | fz sz es =>
    refine ⟨h.1, fun hne => ?_⟩
    obtain ⟨h1, vs, T, fr, e, h⟩ := h.2 hne
    exact ⟨hS _ h1, vs, T, fr, (hb (by simpa [isReal] using hne)).trans e, h.mono hS hw⟩
  | mp ag ks es =>
    obtain ⟨ents, clk, e, hs, h⟩ := h
    refine ⟨ents, clk, (hb rfl).trans e, hs, fun i k v hi => ?_⟩
    obtain ⟨y, hy, hk, hv, hv', hr, hr'⟩ := h i k v hi
    exact ⟨y, hy, hk, hv, hv', hr.keep hS hw hg (by simp [keyOK_refs hk]), hr'.keep hS hw hg (by simp [hv])⟩

/-- the world outside -/
def Outer (w w' : World) : Prop := w'.os = w.os ∧ w'.output = w.output ∧ w'.tape = w.tape ∧ w.drawn ≤ w'.drawn

/-- What a stretch of the run may turn: 'N' are the names that are made in it. -/
structure Step (N : Nat → Prop) (ρ : Nm) (S : Nat → Prop) (H : Heap) (w : World) (ρ' : Nm) (S' : Nat → Prop) (H' : Heap) (w' : World) : Prop where
  inv : Inv ρ' S' H' w'
  sub : ∀ b, S b → S' b
  new : ∀ b, S' b → S b ∨ w.heap.size ≤ b ∨ ∃ l, Live H l ∧ Ftp ρ l b
  frame : ∀ b, b < w.heap.size → (∀ l, Live H l → ¬ Ftp ρ l b) → w'.heap[b]? = w.heap[b]?
  grow : Grow w w'
  size : w.heap.size ≤ w'.heap.size
  live : ∀ l b, Live H' l → Ftp ρ' l b → w.heap.size ≤ b ∨ ∃ l0, Live H l0 ∧ Ftp ρ l0 b
  comp : ∀ l, ¬ N l → Comp ρ H l ρ' H' l
  outer : Outer w w'

theorem Step.refl {N : Nat → Prop} {ρ : Nm} {S : Nat → Prop} {H : Heap} {w : World} (h : Inv ρ S H w) : Step N ρ S H w ρ S H w :=
  ⟨h, fun _ h => h, fun _ h => .inl h, fun _ _ _ => rfl, .refl w, Nat.le_refl _, fun l b hl hf => .inr ⟨l, hl, hf⟩, fun l _ => .refl ρ H l, ⟨rfl, rfl, rfl, by first | exact Nat.le_refl _ | exact Nat.le_add_right _ _⟩⟩

/-- S is kept -/
theorem Step.same {N : Nat → Prop} {ρ ρ' : Nm} {S S' : Nat → Prop} {H H' : Heap} {w w' : World} (h : Step N ρ S H w ρ' S' H' w') (hi : Inv ρ S H w) :
    ∀ b, S b → w'.heap[b]? = w.heap[b]? := fun b hb =>
  h.frame b (hi.dom b hb) fun l hl e => hi.sep l b hl e hb

theorem Step.trans {N N' : Nat → Prop} {ρ ρ1 ρ2 : Nm} {S S1 S2 : Nat → Prop} {H H1 H2 : Heap} {w w1 w2 : World}
    (h : Step N ρ S H w ρ1 S1 H1 w1) (h' : Step N' ρ1 S1 H1 w1 ρ2 S2 H2 w2) : Step (fun l => N l ∨ N' l) ρ S H w ρ2 S2 H2 w2 where
  inv := h'.inv
  sub b hb := h'.sub b (h.sub b hb)
  new b hb := by
    rcases h'.new b hb with q | q | ⟨l, hl, e⟩
    · exact h.new b q
    · exact .inr (.inl (Nat.le_trans h.size q))
    · rcases h.live l b hl e with q | ⟨l0, hl0, e0⟩
      · exact .inr (.inl q)
      · exact .inr (.inr ⟨l0, hl0, e0⟩)
  frame b hb hf := by
    rw [h'.frame b (Nat.lt_of_lt_of_le hb h.size), h.frame b hb hf]
    intro l hl e
    rcases h.live l b hl e with q | ⟨l0, hl0, e0⟩
    · omega
    · exact hf l0 hl0 e0
  grow := h.grow.trans h'.grow
  size := Nat.le_trans h.size h'.size
  live l b hl hf := by
    rcases h'.live l b hl hf with q | ⟨l0, hl0, e0⟩
    · exact .inl (Nat.le_trans h.size q)
    · rcases h.live l0 b hl0 e0 with q | ⟨l1, hl1, e1⟩
      · exact .inl q
      · exact .inr ⟨l1, hl1, e1⟩
  comp l hn := (h.comp l fun q => hn (.inl q)).trans (h'.comp l fun q => hn (.inr q))
  outer := ⟨h'.outer.1.trans h.outer.1, h'.outer.2.1.trans h.outer.2.1, h'.outer.2.2.1.trans h.outer.2.2.1, Nat.le_trans h.outer.2.2.2 h'.outer.2.2.2⟩

theorem Step.weaken {N N' : Nat → Prop} {ρ ρ' : Nm} {S S' : Nat → Prop} {H H' : Heap} {w w' : World} (h : Step N ρ S H w ρ' S' H' w') (hn : ∀ l, N l → N' l) :
    Step N' ρ S H w ρ' S' H' w' := { h with comp := fun l q => h.comp l fun z => q (hn l z) }

theorem RelA.step {N : Nat → Prop} {ρ ρ' : Nm} {S S' : Nat → Prop} {H H' : Heap} {w w' : World} {v : AV} {x : Value} (h : RelA ρ S H w v x)
    (hs : Step N ρ S H w ρ' S' H' w') (hi : Inv ρ S H w) (hn : ∀ l ∈ refs v, ¬ N l) : RelA ρ' S' H' w' v x :=
  h.keep hs.sub (hs.same hi) hs.grow fun l hl => hs.comp l (hn l hl)

theorem RelD.step {N : Nat → Prop} {ρ ρ' : Nm} {S S' : Nat → Prop} {H H' : Heap} {w w' : World} {v : D} {x : Value} (h : RelD S w v x)
    (hs : Step N ρ S H w ρ' S' H' w') (hi : Inv ρ S H w) : RelD S' w' v x := h.mono hs.sub (hs.same hi)

/-! ### a frame's slots -/
structure RelE (ρ : Nm) (S : Nat → Prop) (H : Heap) (w : World) (E : List AV) (ts : Array Value) : Prop where
  size : E.length = ts.size
  at_ : ∀ i, RelA ρ S H w (nth E i) (ts.getD i undef)

theorem nth_eq (E : List AV) (i : Nat) : nth E i = (E[i]?).getD .undef := by
  induction E generalizing i with
  | nil => simp [nth]
  | cons a r ih => cases i <;> simp [nth, ih]

theorem nth_refs (E : List AV) (i : Nat) : ∀ l ∈ refs (nth E i), l ∈ refsL E := by
  intro l hl
  rw [nth_eq] at hl
  cases h : E[i]? with
  | none => rw [h] at hl; simp [refs] at hl
  | some x => rw [h] at hl; exact refsL_mem h l hl

theorem RelE.step {N : Nat → Prop} {ρ ρ' : Nm} {S S' : Nat → Prop} {H H' : Heap} {w w' : World} {E : List AV} {ts : Array Value} (h : RelE ρ S H w E ts)
    (hs : Step N ρ S H w ρ' S' H' w') (hi : Inv ρ S H w) (hn : ∀ l ∈ refsL E, ¬ N l) : RelE ρ' S' H' w' E ts :=
  ⟨h.size, fun i => (h.at_ i).step hs hi fun l hl => hn l (nth_refs E i l hl)⟩

theorem nth_set (E : List AV) (d i : Nat) (v : AV) : nth (E.set d v) i = if i = d ∧ d < E.length then v else nth E i := by
  rw [nth_eq, nth_eq, List.getElem?_set]
  by_cases h : d = i
  · subst h
    by_cases hl : d < E.length
    · simp [hl]
    · simp [hl, List.getElem?_eq_none (Nat.le_of_not_lt hl)]
  · simp [h]; intro e; exact absurd e.symm h

theorem RelE.put {ρ : Nm} {S : Nat → Prop} {H : Heap} {w : World} {E : List AV} {a : Act} (h : RelE ρ S H w E a.tmps) (dst : Option Nat) {v : AV} {x : Value}
    (hv : RelA ρ S H w v x) : RelE ρ S H w (putE E dst v) (a.put dst x).tmps := by
  cases dst with
  | none => exact h
  | some d =>
    refine ⟨by simp [putE, Act.put, h.size], fun i => ?_⟩
    simp only [putE, Act.put, nth_set]
    by_cases hi : i = d ∧ d < E.length
    · rw [if_pos hi]
      obtain ⟨rfl, hl⟩ := hi
      have : i < a.tmps.size := h.size ▸ hl
      simp [this]; exact hv
    · rw [if_neg hi]
      have : (a.tmps.setIfInBounds d x).getD i undef = a.tmps.getD i undef := by
        by_cases e : i = d
        · subst e
          have : ¬ i < a.tmps.size := fun q => hi ⟨rfl, h.size ▸ q⟩
          simp [Array.getD, this]
        · simp only [Array.getD_eq_getD_getElem?]
          rw [Array.getElem?_setIfInBounds_ne (fun q => e q.symm)]
      rw [this]; exact h.at_ i

/-! ### one object written, or made -/
def updK (ρ : Nm) (l b : Nat) (K : Nat → Prop) : Nm := ⟨fun k => if k = l then b else ρ k, fun k => if k = l then K else ρ.hid k⟩
abbrev upd (ρ : Nm) (l b : Nat) : Nm := updK ρ l b (fun _ => False)

theorem updK_self (ρ : Nm) (l b : Nat) (K : Nat → Prop) : updK ρ l b K l = b := by simp [updK]
theorem updK_ne (ρ : Nm) {l k : Nat} (b : Nat) (K : Nat → Prop) (h : k ≠ l) : updK ρ l b K k = ρ k := by simp [updK, h]
theorem updK_hid (ρ : Nm) (l b : Nat) (K : Nat → Prop) : (updK ρ l b K).hid l = K := by simp [updK]
theorem updK_hid_ne (ρ : Nm) {l k : Nat} (b : Nat) (K : Nat → Prop) (h : k ≠ l) : (updK ρ l b K).hid k = ρ.hid k := by simp [updK, h]
theorem upd_self (ρ : Nm) (l b : Nat) : upd ρ l b l = b := updK_self ..
theorem upd_ne (ρ : Nm) {l k : Nat} (b : Nat) (h : k ≠ l) : upd ρ l b k = ρ k := updK_ne ρ b _ h
theorem foot_ne {ρ : Nm} {l k b c : Nat} {K : Nat → Prop} (h : k ≠ l) : Ftp (updK ρ l b K) k c ↔ Ftp ρ k c := by
  unfold Ftp; rw [updK_ne ρ b K h, updK_hid_ne ρ b K h]
theorem foot_self {ρ : Nm} {l b c : Nat} {K : Nat → Prop} : Ftp (updK ρ l b K) l c ↔ b = c ∨ K c := by
  unfold Ftp; rw [updK_self, updK_hid]

theorem comp_ne {ρ : Nm} {H : Heap} {l k b : Nat} {o : AObj} {K : Nat → Prop} (h : k ≠ l) : Comp ρ H k (updK ρ l b K) (hset H l o) k := by
  have e : hget (hset H l o) k = hget H k := hget_set_ne H o h
  have er : updK ρ l b K k = ρ k := updK_ne ρ b K h
  refine ⟨fun sz m hm => ⟨m, ?_, Nat.le_refl _, fun _ => er⟩, fun hv => ⟨?_, er⟩, fun hv => ⟨?_, er⟩⟩
  · simpa [Cnt, e] using hm
  · simpa [IsVar, e] using hv
  · simpa [IsMp, e] using hv

theorem live_hset {H : Heap} {l k : Nat} {o : AObj} (h : Live (hset H l o) k) : k = l ∨ (k ≠ l ∧ Live H k) := by
  by_cases e : k = l
  · exact .inl e
  · obtain ⟨q, hq, hl⟩ := h
    rw [hget_set_ne H o e] at hq
    exact .inr ⟨e, q, hq, hl⟩

theorem step_writeK {N : Nat → Prop} {ρ : Nm} {S : Nat → Prop} {H : Heap} {w : World} (hi : Inv ρ S H w) (l : Nat) (o : AObj) (b : Nat) (K : Nat → Prop) (w' : World)
    (hb : b = w.heap.size ∨ (Live H l ∧ ρ l = b)) (hK : ∀ c, K c → Live H l ∧ ρ.hid l c) (hother : ∀ c, c ≠ b → w'.heap[c]? = w.heap[c]?)
    (hgrow : Grow w w') (hsize : w.heap.size ≤ w'.heap.size) (hcomp : N l ∨ Comp ρ H l (updK ρ l b K) (hset H l o) l)
    (hrefs : ¬ N l ∨ ∀ m q, hget H m = some q → m ≠ l → l ∉ refsO q)
    (hobj : (∀ v x, (∀ k ∈ refs v, k ≠ l ∨ ¬ N l) → RelA ρ S H w v x → RelA (updK ρ l b K) S (hset H l o) w' v x) → (∀ v x, RelD S w v x → RelD S w' v x) →
      (∀ c, K c → w'.heap[c]? = w.heap[c]?) → (∀ c, S c → w'.heap[c]? = w.heap[c]?) → ObjAt (updK ρ l b K) S (hset H l o) w' K b o)
    (hout : Outer w w' := by exact ⟨rfl, rfl, rfl, by first | exact Nat.le_refl _ | exact Nat.le_add_right _ _⟩) :
    Step N ρ S H w (updK ρ l b K) S (hset H l o) w' := by
  have hnS : ¬ S b := by
    rcases hb with rfl | ⟨hl, rfl⟩
    · intro h; exact absurd (hi.dom _ h) (Nat.lt_irrefl _)
    · exact hi.sep l _ hl (.inl rfl)
  have hKb : ∀ c, K c → c ≠ b := fun c hc e => by
    obtain ⟨h1, h2⟩ := hK c hc
    rcases hb with h | ⟨_, h⟩
    · have := hi.hlt l c h1 h2; omega
    · exact hi.hno l h1 (by rw [h, ← e]; exact h2)
  have hw : ∀ c, S c → w'.heap[c]? = w.heap[c]? := fun c hc => hother c fun e => hnS (e ▸ hc)
  have hcomp' : ∀ k, k ≠ l ∨ ¬ N l → Comp ρ H k (updK ρ l b K) (hset H l o) k := fun k hk => by
    by_cases e : k = l
    · subst e
      rcases hcomp with h | h
      · exact absurd h (hk.resolve_left fun q => q rfl)
      · exact h
    · exact comp_ne e
  have hrel : ∀ v x, (∀ k ∈ refs v, k ≠ l ∨ ¬ N l) → RelA ρ S H w v x → RelA (updK ρ l b K) S (hset H l o) w' v x := fun v x hr h =>
    h.keep (fun _ h => h) hw hgrow fun k hk => hcomp' k (hr k hk)
  -- another object's own block, and those led to from it
  have hfne : ∀ k c, k ≠ l → Live H k → Ftp ρ k c → c ≠ b := fun k c hk hl hf e => by
    rcases hb with h | ⟨hl', h⟩
    · have := hi.foot_lt hl hf; omega
    · exact hk (hi.inj k l c hl hl' hf (.inl (h.trans e.symm)))
  have hbne : ∀ k q, k ≠ l → hget H k = some q → isReal q = true → ρ k ≠ b := by
    intro k q hk hq hrq e
    cases hlq : isLive q with
    | true => exact hfne k _ hk ⟨q, hq, hlq⟩ (.inl rfl) e
    | false =>
      cases q with
      | fz sz es =>
        have := ((hi.obj k _ hq).2 (by simpa [isReal] using hrq)).1
        exact hnS (e ▸ this)
      | arr sz es => simp [isLive, isReal] at hlq hrq; exact absurd hlq hrq
      | oar sz es => simp [isLive, isReal] at hlq hrq; exact absurd hlq hrq
      | _ => simp [isLive] at hlq
  have hfoot : ∀ c, Ftp (updK ρ l b K) l c → (c = w.heap.size ∧ c = b) ∨ (Live H l ∧ Ftp ρ l c) := fun c hc => by
    rcases foot_self.1 hc with rfl | hc
    · rcases hb with h | ⟨h, h'⟩
      · exact .inl ⟨h, rfl⟩
      · exact .inr ⟨h, .inl h'⟩
    · exact .inr ⟨(hK c hc).1, .inr (hK c hc).2⟩
  refine ⟨⟨?_, ?_, ?_, ?_, ?_, ?_⟩, fun _ h => h, fun _ h => .inl h, ?_, hgrow, hsize, ?_, ?_, hout⟩
  · intro k q hq
    by_cases e : k = l
    · subst e
      rw [hget_set_self] at hq; cases hq
      rw [updK_self, updK_hid]
      exact hobj hrel (fun v x h => h.mono (fun _ h => h) hw) (fun c hc => hother c (hKb c hc)) hw
    · rw [hget_set_ne H o e] at hq
      rw [updK_ne ρ b K e, updK_hid_ne ρ b K e]
      refine (hi.obj k q hq).keep (fun hr => hother _ (hbne k q e hq hr)) (fun hl c hc => hother c (hfne k c e ⟨q, hq, hl⟩ (.inr hc))) (fun _ h => h) hw hgrow fun m hm => hcomp' m ?_
      rcases hrefs with h | h
      · exact .inr h
      · exact .inl fun em => h k q hq e (em ▸ hm)
  · intro k k' c hk hk' hf hf'
    rcases live_hset hk with rfl | ⟨h1, q1⟩ <;> rcases live_hset hk' with rfl | ⟨h2, q2⟩
    · rfl
    · rw [foot_ne h2] at hf'
      rcases hfoot c hf with ⟨e1, e2⟩ | ⟨h3, h4⟩
      · exact absurd e2 (hfne k' c h2 q2 hf')
      · exact hi.inj _ _ c h3 q2 h4 hf'
    · rw [foot_ne h1] at hf
      rcases hfoot c hf' with ⟨e1, e2⟩ | ⟨h3, h4⟩
      · exact absurd e2 (hfne k c h1 q1 hf)
      · exact hi.inj _ _ c q1 h3 hf h4
    · rw [foot_ne h1] at hf
      rw [foot_ne h2] at hf'
      exact hi.inj k k' c q1 q2 hf hf'
  · intro k c hk hf
    rcases live_hset hk with rfl | ⟨h1, q1⟩
    · rcases hfoot c hf with ⟨_, e⟩ | ⟨h3, h4⟩
      · rw [e]; exact hnS
      · exact hi.sep _ c h3 h4
    · rw [foot_ne h1] at hf; exact hi.sep k c q1 hf
  · intro c hc; exact Nat.lt_of_lt_of_le (hi.dom c hc) hsize
  · intro k c hk hc
    rcases live_hset hk with rfl | ⟨h1, q1⟩
    · rw [updK_hid] at hc
      exact Nat.lt_of_lt_of_le (hi.hlt _ c (hK c hc).1 (hK c hc).2) hsize
    · rw [updK_hid_ne ρ b K h1] at hc; exact Nat.lt_of_lt_of_le (hi.hlt k c q1 hc) hsize
  · intro k hk hc
    rcases live_hset hk with rfl | ⟨h1, q1⟩
    · rw [updK_hid, updK_self] at hc; exact hKb _ hc rfl
    · rw [updK_hid_ne ρ b K h1, updK_ne ρ b K h1] at hc; exact hi.hno k q1 hc
  · intro c hc hf
    refine hother c fun e => ?_
    rcases hb with h | ⟨hl, h⟩
    · omega
    · exact hf l hl (.inl (h.trans e.symm))
  · intro k c hk hf
    rcases live_hset hk with rfl | ⟨h1, q1⟩
    · rcases hfoot c hf with ⟨e, _⟩ | ⟨h3, h4⟩
      · exact .inl (by omega)
      · exact .inr ⟨_, h3, h4⟩
    · rw [foot_ne h1] at hf; exact .inr ⟨k, q1, hf⟩
  · intro k hk
    exact hcomp' k (by by_cases e : k = l; · exact .inr (e ▸ hk)
                       · exact .inl e)

theorem step_write {N : Nat → Prop} {ρ : Nm} {S : Nat → Prop} {H : Heap} {w : World} (hi : Inv ρ S H w) (l : Nat) (o : AObj) (b : Nat) (w' : World)
    (hb : b = w.heap.size ∨ (Live H l ∧ ρ l = b)) (hother : ∀ c, c ≠ b → w'.heap[c]? = w.heap[c]?)
    (hgrow : Grow w w') (hsize : w.heap.size ≤ w'.heap.size) (hcomp : N l ∨ Comp ρ H l (upd ρ l b) (hset H l o) l)
    (hrefs : ¬ N l ∨ ∀ m q, hget H m = some q → m ≠ l → l ∉ refsO q)
    (hobj : (∀ v x, (∀ k ∈ refs v, k ≠ l ∨ ¬ N l) → RelA ρ S H w v x → RelA (upd ρ l b) S (hset H l o) w' v x) → (∀ v x, RelD S w v x → RelD S w' v x) →
      ObjAt (upd ρ l b) S (hset H l o) w' (fun _ => False) b o)
    (hout : Outer w w' := by exact ⟨rfl, rfl, rfl, by first | exact Nat.le_refl _ | exact Nat.le_add_right _ _⟩) :
    Step N ρ S H w (upd ρ l b) S (hset H l o) w' :=
  step_writeK hi l o b _ w' hb (fun _ h => h.elim) hother hgrow hsize hcomp hrefs (fun h1 h2 _ _ => hobj h1 h2) hout

/-! ### freezing -/
def addS (S : Nat → Prop) (b : Nat) : Nat → Prop := fun c => S c ∨ c = b

theorem comp_fz {ρ : Nm} {H : Heap} {l k sz : Nat} {es : List (List D)} (h : hget H l = some (.arr sz es)) : Comp ρ H k ρ (hset H l (.fz sz es)) k := by
  by_cases e : k = l
  · subst e
    refine ⟨fun z m hm => ⟨m, ?_, Nat.le_refl _, fun _ => rfl⟩, fun hv => ?_, fun hv => ?_⟩
    · have hc := cnt_of (hget_set_self H k (.fz sz es)) hm
      exact ⟨_, h, hc⟩
    · obtain ⟨cs, h'⟩ := hv; rw [hget_set_self] at h'; cases h'
    · obtain ⟨ag, ks, cs, h'⟩ := hv; rw [hget_set_self] at h'; cases h'
  · have e' : hget (hset H l (.fz sz es)) k = hget H k := hget_set_ne H _ e
    refine ⟨fun z m hm => ⟨m, ?_, Nat.le_refl _, fun _ => rfl⟩, fun hv => ⟨?_, rfl⟩, fun hv => ⟨?_, rfl⟩⟩
    · simpa [Cnt, e'] using hm
    · simpa [IsVar, e'] using hv
    · simpa [IsMp, e'] using hv

theorem step_fz {N : Nat → Prop} {ρ : Nm} {S : Nat → Prop} {H : Heap} {w : World} (hi : Inv ρ S H w) {l sz : Nat} {es : List (List D)} (h : hget H l = some (.arr sz es)) (hne : es ≠ []) :
    Step N ρ S H w ρ (addS S (ρ l)) (hset H l (.fz sz es)) w := by
  have hl : Live H l := ⟨_, h, by simpa [isLive] using hne⟩
  have hS : ∀ b, S b → addS S (ρ l) b := fun _ h => .inl h
  have live : ∀ k, Live (hset H l (.fz sz es)) k → k ≠ l ∧ Live H k := fun k hk => by
    rcases live_hset hk with rfl | q
    · obtain ⟨o, ho, hlo⟩ := hk
      rw [hget_set_self] at ho; cases ho; simp [isLive] at hlo
    · exact q
  refine ⟨⟨?_, ?_, ?_, ?_, fun k b hk => hi.hlt k b (live k hk).2, fun k hk => hi.hno k (live k hk).2⟩, hS, ?_, fun _ _ _ => rfl, .refl w, Nat.le_refl _, ?_, ?_, ⟨rfl, rfl, rfl, by first | exact Nat.le_refl _ | exact Nat.le_add_right _ _⟩⟩
  · intro k q hq
    by_cases e : k = l
    · subst e
      rw [hget_set_self] at hq; cases hq
      obtain ⟨vs, T, e, hr⟩ := (hi.obj k _ h).2 hne
      exact ⟨(hi.obj k _ h).1, fun _ => ⟨.inr rfl, vs, T, _, e, hr.mono hS fun _ _ => rfl⟩⟩
    · rw [hget_set_ne H _ e] at hq
      exact (hi.obj k q hq).keep (fun _ => rfl) (fun _ _ _ => rfl) hS (fun _ _ => rfl) (.refl w) fun m _ => comp_fz h
  · intro k k' b hk hk' e e'; exact hi.inj k k' b (live k hk).2 (live k' hk').2 e e'
  · intro k b hk hf hs
    obtain ⟨h1, h2⟩ := live k hk
    rcases hs with hs | hs
    · exact hi.sep k b h2 hf hs
    · exact h1 (hi.inj k l b h2 hl hf (.inl hs.symm))
  · intro b hb
    rcases hb with hb | rfl
    · exact hi.dom b hb
    · exact hi.live_lt hl
  · intro b hb
    rcases hb with hb | rfl
    · exact .inl hb
    · exact .inr (.inr ⟨l, hl, .inl rfl⟩)
  · intro k b hk hf; exact .inr ⟨k, (live k hk).2, hf⟩
  · intro k _; exact comp_fz h

/-- an empty row's freezing turns nothing -/
theorem step_fz0 {N : Nat → Prop} {ρ : Nm} {S : Nat → Prop} {H : Heap} {w : World} (hi : Inv ρ S H w) {l sz : Nat} (h : hget H l = some (.arr sz [])) :
    Step N ρ S H w ρ S (hset H l (.fz sz [])) w := by
  have live : ∀ k, Live (hset H l (.fz sz [])) k → k ≠ l ∧ Live H k := fun k hk => by
    rcases live_hset hk with rfl | q
    · obtain ⟨o, ho, hlo⟩ := hk
      rw [hget_set_self] at ho; cases ho; simp [isLive] at hlo
    · exact q
  refine ⟨⟨?_, ?_, ?_, hi.dom, fun k b hk => hi.hlt k b (live k hk).2, fun k hk => hi.hno k (live k hk).2⟩, fun _ h => h, fun _ h => .inl h, fun _ _ _ => rfl, .refl w, Nat.le_refl _, ?_, ?_, ⟨rfl, rfl, rfl, by first | exact Nat.le_refl _ | exact Nat.le_add_right _ _⟩⟩
  · intro k q hq
    by_cases e : k = l
    · subst e
      rw [hget_set_self] at hq; cases hq
      exact ⟨(hi.obj k _ h).1, fun h => absurd rfl h⟩
    · rw [hget_set_ne H _ e] at hq
      exact (hi.obj k q hq).keep (fun _ => rfl) (fun _ _ _ => rfl) (fun _ h => h) (fun _ _ => rfl) (.refl w) fun m _ => comp_fz h
  · intro k k' b hk hk' e e'; exact hi.inj k k' b (live k hk).2 (live k' hk').2 e e'
  · intro k b hk; exact hi.sep k b (live k hk).2
  · intro k b hk hf; exact .inr ⟨k, (live k hk).2, hf⟩
  · intro k _; exact comp_fz h

end Bz

/- What an operation of the clean machine says of the model's, one by one. -/
namespace Bz
open Go

section
variable {P : Program} {w : World}

theorem info_of_sz {t : TypeId} (h : szOf P t ≠ 0) : ∃ i, P.info? t = some i := by
  unfold szOf Program.cellsOf at h
  cases e : P.info? t with
  | none => simp [e] at h
  | some i => exact ⟨i, rfl⟩

theorem run_size {t : TypeId} (h : szOf P t ≠ 0) (w : World) : (Go.sizeOf t).run P w = Result.ok (szOf P t) w := by
  obtain ⟨i, hi⟩ := info_of_sz h
  exact run_sizeOf w hi

theorem run_agg {t : TypeId} {g : Bool} (h : aggOf P t = some g) (w : World) : (isAgg t).run P w = .ok g w := by
  unfold aggOf at h
  obtain ⟨d, hd, rfl⟩ := Option.map_eq_some_iff.1 h
  unfold isAgg
  simp only [Sem.run_bind, run_underlying hd, Result.andThen_ok]
  cases d <;> rfl

theorem flat_one {v : Value} (h : Flat v) : v.oneCell' = true := by cases v <;> first | rfl | exact h.elim
theorem one_flat {v : Value} (h : v.oneCell' = true) : Flat v := by cases v <;> first | trivial | simp [Value.oneCell'] at h
theorem flat_cells {v : Value} (h : Flat v) : v.cells = #[v] := by cases v <;> first | rfl | exact h.elim

variable {ρ : Nm} {S : Nat → Prop} {H : Heap}

theorem flatA_rel {v : AV} {x : Value} (hf : flatA v = true) (h : RelA ρ S H w v x) : Flat x := by
  cases h with
  | undef => simp [flatA] at hf
  | anyb => simp [flatA] at hf
  | ow => simp [flatA] at hf
  | d x v h => exact h.flat
  | os _ _ _ _ _ h => exact h
  | pv _ _ _ h => exact h
  | pa _ _ _ _ _ h => exact h
  | vp => trivial
  | map _ _ h => exact h
  | fn => trivial
  | agg => simp [flatA] at hf
  | tup => simp [flatA] at hf

theorem cells_rel {v : AV} {x : Value} (hs : solid v = true) (h : RelA ρ S H w v x) :
    x.cells.size = (cellsOf v).length ∧ ∀ (k : Nat) (d : AV), (cellsOf v)[k]? = some d → ∃ y, x.cells[k]? = some y ∧ Flat y ∧ RelA ρ S H w d y := by
  have one : flatA v = true → cellsOf v = [v] → x.cells.size = (cellsOf v).length ∧ ∀ (k : Nat) (d : AV), (cellsOf v)[k]? = some d → ∃ y, x.cells[k]? = some y ∧ Flat y ∧ RelA ρ S H w d y := by
    intro hf hc
    have fx := flatA_rel hf h
    rw [hc, flat_cells fx]
    refine ⟨rfl, fun k d hk => ?_⟩
    cases k with
    | zero => simp at hk; subst hk; exact ⟨x, rfl, fx, h⟩
    | succ k => simp at hk
  cases v with
  | agg cs =>
    cases h with
    | agg _ vs ys h1 h2 h3 =>
      refine ⟨h1.symm, fun k d hk => ?_⟩
      have hk' : cs[k]? = some d := hk
      have hd : flatA d = true := by
        simp only [solid, cellsOf, List.all_eq_true] at hs
        exact hs d (List.mem_of_getElem? hk')
      exact ⟨ys k, h2 k d hk', flatA_rel hd (h3 k d hk'), h3 k d hk'⟩
  | undef => simp [solid, cellsOf, flatA] at hs
  | anyb => simp [solid, cellsOf, flatA] at hs
  | ow t => simp [solid, cellsOf, flatA] at hs
  | tup cs => simp [solid, cellsOf, flatA] at hs
  | d x => exact one rfl rfl
  | os l n off len => exact one rfl rfl
  | pv l j => exact one rfl rfl
  | pa l n i j => exact one rfl rfl
  | vp c j => exact one rfl rfl
  | map l => exact one rfl rfl
  | fn f cs => exact one rfl rfl

/-! ### lists cut and put -/
theorem cut_some {α : Type} {c d : List α} {j sz : Nat} (h : cut c j sz = some d) : j + sz ≤ c.length ∧ d = (c.drop j).take sz := by
  unfold cut at h; split at h
  · cases h; exact ⟨by assumption, rfl⟩
  · cases h

theorem cut_get {α : Type} {c d : List α} {j sz : Nat} (h : cut c j sz = some d) : d.length = sz ∧ ∀ k x, d[k]? = some x → c[j + k]? = some x ∧ k < sz := by
  obtain ⟨hl, rfl⟩ := cut_some h
  refine ⟨by simp; omega, fun k x hk => ?_⟩
  rw [List.getElem?_take] at hk
  split at hk
  · rw [List.getElem?_drop] at hk; exact ⟨hk, by assumption⟩
  · cases hk

theorem put_length {α : Type} (c : List α) (j : Nat) (v : List α) (h : j + v.length ≤ c.length) : (put c j v).length = c.length := by
  simp [put]; omega

theorem put_get {α : Type} (c : List α) (j : Nat) (v : List α) (h : j + v.length ≤ c.length) (k : Nat) :
    (put c j v)[k]? = if k < j then c[k]? else if k < j + v.length then v[k - j]? else c[k]? := by
  unfold put
  have hj : j ≤ c.length := by omega
  have lt : (c.take j).length = j := by simp; omega
  by_cases h1 : k < j
  · rw [if_pos h1, List.append_assoc, List.getElem?_append_left (by omega), List.getElem?_take, if_pos h1]
  · rw [if_neg h1]
    by_cases h2 : k < j + v.length
    · rw [if_pos h2, List.append_assoc, List.getElem?_append_right (by omega), lt, List.getElem?_append_left (by omega)]
    · rw [if_neg h2, List.getElem?_append_right (by simp; omega), List.getElem?_drop]
      congr 1; simp; omega

/-! ### loading -/
theorem loadVar_rel {t : TypeId} {sz : Nat} {ag : Bool} (hz : szOf P t = sz) (h0 : sz ≠ 0) (hg : aggOf P t = some ag) {a : Addr} {ds : List AV} (hl : ds.length = sz)
    (hc : ∀ (k : Nat) (d : AV), ds[k]? = some d → ∃ y, w.cell? (a.add k) = some y ∧ RelA ρ S H w d y) {v : AV} (hv : mkVal ag ds = some v) :
    ∃ z, (loadVar t a).run P w = .ok z w ∧ RelA ρ S H w v z := by
  unfold loadVar
  simp only [Sem.run_bind, run_agg hg, Result.andThen_ok]
  cases ag with
  | false =>
    simp only [mkVal, Bool.false_eq_true, if_false] at hv
    match ds, hv with
    | [d], hv =>
      cases hv
      obtain ⟨y, hy, hr⟩ := hc 0 _ rfl
      have : a.add 0 = a := rfl
      rw [this] at hy
      refine ⟨y, ?_, hr⟩
      simp [hy]
  | true =>
    simp only [mkVal, if_true] at hv
    cases hv
    have hz' : szOf P t ≠ 0 := by rw [hz]; exact h0
    simp only [if_true, Sem.run_bind, run_size hz', Result.andThen_ok, hz]
    rw [run_loadCells w a sz (fun k => (w.cell? (a.add k)).getD undef)]
    · simp only [Result.andThen_ok, Sem.run_pure]
      refine ⟨_, rfl, .agg ds _ (fun k => (w.cell? (a.add k)).getD undef) (by simp [hl]) (fun i x hi => ?_) (fun i x hi => ?_)⟩
      · have : i < sz := by rw [← hl]; exact (List.getElem?_eq_some_iff.1 hi).1
        simp [this]
      · obtain ⟨y, hy, hr⟩ := hc i x hi
        rw [hy]; exact hr
    · intro k hk
      obtain ⟨y, hy, _⟩ := hc k ds[k] (List.getElem?_eq_getElem (by omega))
      rw [hy]; rfl

theorem relA_map_d {ds : List D} {k : Nat} {x : AV} (h : (ds.map AV.d)[k]? = some x) : ∃ y, ds[k]? = some y ∧ x = .d y := by
  rw [List.getElem?_map] at h
  obtain ⟨y, hy, rfl⟩ := Option.map_eq_some_iff.1 h
  exact ⟨y, hy, rfl⟩

theorem addr_add (b o k : Nat) : (⟨b, o, none⟩ : Addr).add k = ⟨b, o + k, none⟩ := by
  unfold Addr.add; split
  · subst_vars; simp
  · rfl

theorem cell_at {b o : Nat} {cs : Array Value} {T : TypeId} {fr : Nat × Nat} (h : w.heap[b]? = some (.cells cs T fr)) : w.cell? ⟨b, o, none⟩ = cs[o]? := by
  unfold World.cell?; simp [h]

theorem row_cell {sz : Nat} {es : List (List D)} {vs : Array Value} {b : Nat} {T : TypeId} {fr : Nat × Nat} (hr : RowAt S w sz es vs) (hb : w.heap[b]? = some (.cells vs T fr))
    {i : Nat} {c : List D} (hi : es[i]? = some c) {j : Nat} {x : D} (hj : c[j]? = some x) : ∃ y, w.cell? ⟨b, i * sz + j, none⟩ = some y ∧ RelD S w x y := by
  obtain ⟨v, hv, h⟩ := (hr.2 i c hi).2 j x hj
  exact ⟨v, by rw [cell_at hb]; exact hv, h⟩

theorem load_rel {t : TypeId} {sz : Nat} {ag : Bool} (hz : szOf P t = sz) (h0 : sz ≠ 0) (hg : aggOf P t = some ag) (hi : Inv ρ S H w) {x v : AV} {y : Value}
    (hr : RelA ρ S H w x y) (h : aload H sz ag x = some v) : ∃ z, (Instr.loadAt t y).run P w = .ok z w ∧ RelA ρ S H w v z := by
  have go : ∀ (a : Addr) (ds : List AV), y = .pointer (some a) → ds.length = sz → (∀ (k : Nat) (d : AV), ds[k]? = some d → ∃ y, w.cell? (a.add k) = some y ∧ RelA ρ S H w d y) →
      mkVal ag ds = some v → ∃ z, (Instr.loadAt t y).run P w = .ok z w ∧ RelA ρ S H w v z := by
    intro a ds he hl hc hv
    obtain ⟨z, hz1, hz2⟩ := loadVar_rel hz h0 hg hl hc hv
    refine ⟨z, ?_, hz2⟩
    subst he
    simp only [Instr.loadAt, Instr.sureAddr, Sem.run_bind, Sem.run_pure, Result.andThen_ok, hz1]
  cases x with
  | pv l j =>
    simp only [aload] at h
    split at h
    · rename_i cs hcs
      obtain ⟨ds, hds, hv⟩ := Option.bind_eq_some_iff.1 h
      obtain ⟨hl, hcut⟩ := cut_get hds
      cases hr with
      | pv _ _ _ _ hp =>
        obtain ⟨vs, T, hb, _, G, _, hcell⟩ := hi.obj l _ hcs
        refine go _ ds (hp ⟨cs, hcs⟩) hl (fun k d hk => ?_) hv
        obtain ⟨z, hz1, _, hz2⟩ := hcell (j + k) d (hcut k d hk).1
        exact ⟨z, by rw [addr_add, cell_at hb]; exact hz1, hz2.rel⟩
    · cases h
  | pa l n i j =>
    cases hr with
    | pa _ _ _ _ _ _ hp =>
      have key : ∀ (z : Nat) (es : List (List D)) (vs : Array Value) (T : TypeId) (fr : Nat × Nat), Cnt H l z n → w.heap[ρ l]? = some (.cells vs T fr) → RowAt S w z es vs →
          ((es[i]?).bind fun c => (cut c j sz).bind fun ds => mkVal ag (ds.map .d)) = some v → ∃ z, (Instr.loadAt t y).run P w = .ok z w ∧ RelA ρ S H w v z := by
        intro z es vs T fr hcnt hb hrow h
        obtain ⟨c, hc, h⟩ := Option.bind_eq_some_iff.1 h
        obtain ⟨ds, hds, hv⟩ := Option.bind_eq_some_iff.1 h
        obtain ⟨hl, hcut⟩ := cut_get hds
        refine go _ (ds.map .d) ((hp z n hcnt).2 rfl) (by simp [hl]) (fun k d hk => ?_) hv
        obtain ⟨q, hq, rfl⟩ := relA_map_d hk
        obtain ⟨y', hy1, hy2⟩ := row_cell hrow hb hc (hcut k q hq).1
        exact ⟨y', by rw [addr_add, Nat.add_assoc]; exact hy1, .d _ _ hy2⟩
      simp only [aload] at h
      split at h
      · rename_i z es hes
        split at h
        · rename_i hn
          have hne : es ≠ [] := by intro e; subst e; simp at h
          obtain ⟨vs, T, hb, hrow⟩ := (hi.obj l _ hes).2 hne
          exact key z es vs T _ (cnt_arr hes hn) hb hrow h
        · cases h
      · rename_i z es hes
        split at h
        · rename_i hn
          have hne : es ≠ [] := by intro e; subst e; simp at h
          obtain ⟨_, vs, T, fr, hb, hrow⟩ := (hi.obj l _ hes).2 hne
          exact key z es vs T _ (cnt_fz hes hn) hb hrow h
        · cases h
      · rename_i z es hes
        split at h
        · rename_i hn
          have hne : es ≠ [] := by intro e; subst e; simp at h
          obtain ⟨_, hrl, hrest⟩ := hi.obj l _ hes
          obtain ⟨vs, T, hb, _, G, _, hcell⟩ := hrest hne
          obtain ⟨c, hc, h⟩ := Option.bind_eq_some_iff.1 h
          obtain ⟨ds, hds, hv⟩ := Option.bind_eq_some_iff.1 h
          obtain ⟨hl, hcut⟩ := cut_get hds
          refine go _ ds ((hp z n (cnt_oar hes hn)).2 rfl) hl (fun k d hk => ?_) hv
          obtain ⟨y', hy1, _, hy2⟩ := hcell i c hc (j + k) d (hcut k d hk).1
          exact ⟨y', by rw [addr_add, Nat.add_assoc, cell_at hb]; exact hy1, hy2.rel⟩
        · cases h
      · cases h
  | vp c j =>
    simp only [aload] at h
    obtain ⟨ds, hds, hv⟩ := Option.bind_eq_some_iff.1 h
    obtain ⟨hl, hcut⟩ := cut_get hds
    cases hr with
    | vp _ _ a xs _ h2 h3 =>
      refine go _ (ds.map .d) rfl (by simp [hl]) (fun k d hk => ?_) hv
      obtain ⟨q, hq, rfl⟩ := relA_map_d hk
      refine ⟨xs (j + k), ?_, .d _ _ (h3 _ _ (hcut k q hq).1)⟩
      rw [add_add]; exact h2 _ _ (hcut k q hq).1
  | _ => simp [aload] at h

/-! ### storing -/
theorem setRow_grow {g : Nat} {cs cs' : Array Value} {T : TypeId} {fr : Nat × Nat} (h : w.heap[g]? = some (.cells cs T fr)) (hs : cs'.size = cs.size) :
    Grow w (w.setRow g cs') ∧ (∀ b, b ≠ g → (w.setRow g cs').heap[b]? = w.heap[b]?) ∧ w.heap.size ≤ (w.setRow g cs').heap.size ∧ (w.setRow g cs').heap[g]? = some (.cells cs' T fr) := by
  have h1 := setRow_heap w g cs cs' T fr h
  have h2 : ∀ b, b ≠ g → (w.setRow g cs').heap[b]? = w.heap[b]? := by
    intro b hb
    unfold World.setRow
    simp only [Array.getElem?_modify]
    rw [if_neg (fun e => hb e.symm)]
  refine ⟨fun b c T' fr' hb => ?_, h2, by unfold World.setRow; simp, h1⟩
  by_cases e : b = g
  · subst e
    rw [h] at hb; cases hb
    exact ⟨cs', fr, h1, hs⟩
  · exact ⟨c, fr', by rw [h2 b e]; exact hb, rfl⟩

theorem comp_var {l : Nat} {cs cs' : List AV} {K : Nat → Prop} (h : hget H l = some (.var cs)) : Comp ρ H l (updK ρ l (ρ l) K) (hset H l (.var cs')) l := by
  refine ⟨fun sz m hm => ?_, fun _ => ⟨⟨cs, h⟩, updK_self ..⟩, fun hm => ?_⟩
  · have := cnt_of (hget_set_self ..) hm; cases this
  · obtain ⟨ag, ks, es, he⟩ := hm; rw [hget_set_self] at he; cases he

theorem comp_arr {l sz b : Nat} {es es' : List (List D)} (h : hget H l = some (.arr sz es)) (hl : es.length ≤ es'.length) (hb : es.length = es'.length → b = ρ l) :
    Comp ρ H l (upd ρ l b) (hset H l (.arr sz es')) l := by
  refine ⟨fun z m hm => ?_, fun hm => ?_, fun hm => ?_⟩
  · have hm := cnt_of (hget_set_self ..) hm
    simp only [rowsOf, Option.some.injEq, Prod.mk.injEq] at hm
    obtain ⟨rfl, rfl⟩ := hm
    exact ⟨es.length, cnt_arr h rfl, hl, fun e => by rw [upd_self, hb e]⟩
  · obtain ⟨cs, he⟩ := hm; rw [hget_set_self] at he; cases he
  · obtain ⟨ag, ks, cs, he⟩ := hm; rw [hget_set_self] at he; cases he

theorem comp_oar {l sz b : Nat} {es es' : List (List AV)} {K : Nat → Prop} (h : hget H l = some (.oar sz es)) (hl : es.length ≤ es'.length) (hb : es.length = es'.length → b = ρ l) :
    Comp ρ H l (updK ρ l b K) (hset H l (.oar sz es')) l := by
  refine ⟨fun z m hm => ?_, fun hm => ?_, fun hm => ?_⟩
  · have hm := cnt_of (hget_set_self ..) hm
    simp only [rowsOf, Option.some.injEq, Prod.mk.injEq] at hm
    obtain ⟨rfl, rfl⟩ := hm
    exact ⟨es.length, cnt_oar h rfl, hl, fun e => by rw [updK_self, hb e]⟩
  · obtain ⟨cs, he⟩ := hm; rw [hget_set_self] at he; cases he
  · obtain ⟨ag, ks, cs, he⟩ := hm; rw [hget_set_self] at he; cases he

/-- the cells of a value, stored one by one -/
theorem storeVar_run {t : TypeId} {sz : Nat} (hz : szOf P t = sz) (h0 : sz ≠ 0) {g o : Nat} {T : TypeId} {cur : Array Value} {x : Value} (hg : w.heap[g]? = some (.cells cur T (0, 0)))
    (hs : x.cells.size = sz) (hl : o + sz ≤ cur.size) (h1 : ∀ v ∈ x.cells.toList, Flat v) :
    (storeVar t ⟨g, o, none⟩ x).run P w = .ok () (w.setRow g (put cur.toList o x.cells.toList).toArray) := by
  unfold storeVar
  have hz' : szOf P t ≠ 0 := by rw [hz]; exact h0
  simp only [Sem.run_bind, run_size hz', Result.andThen_ok, hz, hs, ne_eq, not_true_eq_false, if_false, Sem.run_pure]
  have := run_storeCells_at (P := P) g o T x.cells.toList 0 cur w hg (by simp [hs]; omega) (fun v hv => flat_one (h1 v hv))
  rw [this]
  simp [put, hs]

theorem cells_flat {v : AV} {x : Value} (hs : solid v = true) (h : RelA ρ S H w v x) : ∀ y ∈ x.cells.toList, Flat y := by
  intro y hy
  obtain ⟨h1, h2⟩ := cells_rel hs h
  obtain ⟨k, hk, rfl⟩ := List.getElem_of_mem hy
  have hk' : k < (cellsOf v).length := by simp at hk; omega
  obtain ⟨z, hz, hf, _⟩ := h2 k _ (List.getElem?_eq_getElem hk')
  have : x.cells[k]? = some x.cells.toList[k] := by simp at hk; simp [hk]
  rw [this] at hz; cases hz; exact hf

theorem vwDs_get {cs : List AV} {ds : List D} (h : vwDs H cs = some ds) : ds.length = cs.length ∧ ∀ (k : Nat) (c : AV), cs[k]? = some c → ∃ x, ds[k]? = some x ∧ vwD H c = some x := by
  induction cs generalizing ds with
  | nil => simp [vwDs] at h; subst h; simp
  | cons a r ih =>
    simp only [vwDs] at h
    split at h
    · cases h
    · rename_i x hx
      split at h
      · cases h
      · rename_i xs hxs
        cases h
        obtain ⟨h1, h2⟩ := ih hxs
        refine ⟨by simp [h1], fun k c hk => ?_⟩
        cases k with
        | zero => simp at hk; subst hk; exact ⟨x, rfl, hx⟩
        | succ k => simp at hk; obtain ⟨y, hy, hv⟩ := h2 k c hk; exact ⟨y, by simpa using hy, hv⟩

theorem vwD_solid {v : AV} {x : D} (h : vwD H v = some x) : flatA v = true := by
  cases v <;> simp_all [vwD, flatA]

/-! ### freezing several arrays -/
theorem comp_ext {H H' : Heap} (h : ∀ k, hget H' k = hget H k) (k : Nat) : Comp ρ H k ρ H' k :=
  ⟨fun sz m hm => ⟨m, by simpa [Cnt, h] using hm, Nat.le_refl _, fun _ => rfl⟩, fun hv => ⟨by simpa [IsVar, h] using hv, rfl⟩, fun hv => ⟨by simpa [IsMp, h] using hv, rfl⟩⟩

theorem ObjAt.ext' {H H' : Heap} {K : Nat → Prop} {b : Nat} {o : AObj} (h : ObjAt ρ S H w K b o) (e : ∀ k, hget H' k = hget H k) : ObjAt ρ S H' w K b o :=
  h.keep (fun _ => rfl) (fun _ _ _ => rfl) (fun _ h => h) (fun _ _ => rfl) (.refl w) fun m _ => comp_ext e m

theorem step_ext {N : Nat → Prop} {H H' : Heap} (hi : Inv ρ S H w) (h : ∀ k, hget H' k = hget H k) : Step N ρ S H w ρ S H' w := by
  have hl : ∀ k, Live H' k ↔ Live H k := fun k => by simp [Live, h]
  refine ⟨⟨fun l o ho => ?_, fun l l' c a b e e' => hi.inj l l' c ((hl l).1 a) ((hl l').1 b) e e', fun l b a => hi.sep l b ((hl l).1 a), hi.dom, fun l b a => hi.hlt l b ((hl l).1 a), fun l a => hi.hno l ((hl l).1 a)⟩, fun _ h => h, fun _ h => .inl h, fun _ _ _ => rfl, .refl w, Nat.le_refl _, fun l b a hf => .inr ⟨l, (hl l).1 a, hf⟩, fun l _ => comp_ext h l, ⟨rfl, rfl, rfl, by first | exact Nat.le_refl _ | exact Nat.le_add_right _ _⟩⟩
  rw [h] at ho
  exact (hi.obj l o ho).ext' h

theorem step_frz {N : Nat → Prop} : ∀ (u : Upd) (H : Heap) (S : Nat → Prop), Inv ρ S H w →
    (∀ p ∈ u, ∃ sz es, p.2 = .fz sz es ∧ (hget H p.1 = some (.arr sz es) ∨ hget H p.1 = some (.fz sz es))) →
    ∃ S', Step N ρ S H w ρ S' (applyU H u) w ∧ (∀ p ∈ u, (∀ sz, p.2 ≠ .fz sz []) → S' (ρ p.1)) ∧ ∀ k, (∀ p ∈ u, p.1 ≠ k) → hget (applyU H u) k = hget H k
  | [], H, S, hi, _ => ⟨S, .refl hi, fun p hp => by simp at hp, fun _ _ => rfl⟩
  | (l, o) :: r, H, S, hi, h => by
    obtain ⟨sz, es, ho, hg⟩ := h (l, o) (by simp)
    simp only at ho hg
    subst ho
    have hnext : ∀ p ∈ r, ∃ sz' es', p.2 = .fz sz' es' ∧ (hget (hset H l (.fz sz es)) p.1 = some (.arr sz' es') ∨ hget (hset H l (.fz sz es)) p.1 = some (.fz sz' es')) := by
      intro p hp
      obtain ⟨sz', es', h1, h2⟩ := h p (by simp [hp])
      refine ⟨sz', es', h1, ?_⟩
      by_cases e : p.1 = l
      · rw [e] at h2 ⊢
        rw [hget_set_self]
        right
        rcases hg with hg | hg <;> rw [hg] at h2 <;> rcases h2 with h2 | h2 <;> cases h2 <;> rfl
      · rw [hget_set_ne H _ e]; exact h2
    have first : ∃ S1, Step N ρ S H w ρ S1 (hset H l (.fz sz es)) w ∧ (es ≠ [] → S1 (ρ l)) := by
      rcases hg with hg | hg
      · by_cases hne : es = []
        · subst hne
          exact ⟨S, step_fz0 hi hg, fun h => absurd rfl h⟩
        · exact ⟨_, step_fz hi hg hne, fun _ => .inr rfl⟩
      · refine ⟨S, step_ext hi fun k => ?_, fun hne => ((hi.obj l _ hg).2 hne).1⟩
        by_cases e : k = l
        · subst e; rw [hget_set_self, hg]
        · rw [hget_set_ne H _ e]
    obtain ⟨S1, st1, hS1⟩ := first
    obtain ⟨S2, st2, hS2, hk2⟩ := step_frz r (hset H l (.fz sz es)) S1 st1.inv hnext
    refine ⟨S2, (st1.trans st2).weaken (fun l h => h.elim id id), fun p hp hne => ?_, fun k hk => ?_⟩
    · rcases List.mem_cons.1 hp with rfl | hp
      · exact st2.sub _ (hS1 fun e => hne sz (by rw [e]))
      · exact hS2 p hp hne
    · show hget (applyU (hset H l (.fz sz es)) r) k = hget H k
      rw [hk2 k fun p hp => hk p (by simp [hp]), hget_set_ne H _ fun e => hk (l, .fz sz es) (by simp) e.symm]

theorem frz_ok (H : Heap) (ls : List Nat) : ∀ p ∈ frz H ls, p.1 ∈ ls ∧ ∃ sz es, p.2 = .fz sz es ∧ (hget H p.1 = some (.arr sz es) ∨ hget H p.1 = some (.fz sz es)) := by
  intro p hp
  unfold frz at hp
  obtain ⟨l, hl, h⟩ := List.mem_filterMap.1 hp
  split at h
  · rename_i sz es e
    cases h
    exact ⟨hl, sz, es, rfl, .inl e⟩
  · cases h

theorem frz_has (H : Heap) (ls : List Nat) {l sz : Nat} {es : List (List D)} (hl : l ∈ ls) (h : hget H l = some (.arr sz es)) : (l, .fz sz es) ∈ frz H ls := by
  unfold frz
  refine List.mem_filterMap.2 ⟨l, hl, ?_⟩
  simp [h]

/-- all that some values lead to, frozen -/
theorem step_frzs {N : Nat → Prop} (hi : Inv ρ S H w) (ls : List Nat) :
    ∃ S', Step N ρ S H w ρ S' (applyU H (frz H ls)) w ∧ (∀ l ∈ ls, (∃ sz m, m ≠ 0 ∧ CntD H l sz m) → S' (ρ l)) ∧
      (∀ k, k ∉ ls → hget (applyU H (frz H ls)) k = hget H k) ∧ (∀ k o, hget H k = some o → (∀ sz es, o ≠ .arr sz es) → hget (applyU H (frz H ls)) k = hget H k) := by
  obtain ⟨S', h1, h2, h3⟩ := step_frz (N := N) (frz H ls) H S hi fun p hp => (frz_ok H ls p hp).2
  refine ⟨S', h1, fun l hl hc => ?_, fun k hk => h3 k fun p hp e => hk (e ▸ (frz_ok H ls p hp).1), fun k o ho hne => h3 k fun p hp e => ?_⟩
  · obtain ⟨sz, m, hm, es, he, hlen⟩ := hc
    have hne : es ≠ [] := by intro e; subst e; exact hm hlen.symm
    rcases he with he | he
    · exact h2 _ (frz_has H ls hl he) fun sz' e => by cases e; exact hne rfl
    · exact h1.sub _ ((hi.obj l _ he).2 hne).1
  · obtain ⟨_, sz, es, _, hg⟩ := frz_ok H ls p hp
    rw [e, ho] at hg
    rcases hg with hg | hg
    · exact hne sz es (Option.some.inj hg)
    · unfold frz at hp
      obtain ⟨l, hl, hq⟩ := List.mem_filterMap.1 hp
      split at hq
      · rename_i sz' es' e'
        cases hq
        simp only at e
        subst e
        rw [ho] at e'; cases e'
        exact hne _ _ rfl
      · cases hq

/-! ### slices, read as data -/
theorem rows_rel {sz m off len : Nat} {l : Nat} {es : List (List D)} {vs : Array Value} {T : TypeId} {fr : Nat × Nat} {S' : Nat → Prop} {y : Value}
    (hb : w.heap[ρ l]? = some (.cells vs T fr)) (hrow : RowAt S' w sz es vs) (hm : es.length = m) (hle : off + len ≤ m) (ho : OSV ρ w l sz off len y) (hS : len ≠ 0 → S' (ρ l)) :
    RelD S' w (.vs false ((es.drop off).take len)) y := by
  obtain ⟨a, cap, cs, T', fr', rfl, hc, ha, hb', hsz⟩ := ho
  have hlen : ((es.drop off).take len).length = len := by simp; omega
  have key := RelD.vs (S := S') (w := w) a sz cap ((es.drop off).take len) (fun i j => (w.cell? (a.add (i * sz + j))).getD undef)
  rw [hlen] at key
  have get : ∀ (i : Nat) (c : List D), ((es.drop off).take len)[i]? = some c → es[off + i]? = some c ∧ i < len := by
    intro i c hi
    rw [List.getElem?_take] at hi
    split at hi
    · rw [List.getElem?_drop] at hi; exact ⟨hi, by assumption⟩
    · cases hi
  have addr : ∀ (i : Nat) (c : List D), ((es.drop off).take len)[i]? = some c → ∀ j, a.add (i * sz + j) = ⟨ρ l, (off + i) * sz + j, none⟩ := by
    intro i c hi j
    have hl := (get i c hi).2
    have : a = ⟨ρ l, off * sz, none⟩ := ha.resolve_left (by omega)
    subst this
    rw [addr_add]
    congr 1
    rw [Nat.add_mul, Nat.add_assoc]
  have cell : ∀ (i j : Nat) (c : List D) (x : D), ((es.drop off).take len)[i]? = some c → c[j]? = some x → ∃ y, w.cell? (a.add (i * sz + j)) = some y ∧ RelD S' w x y := by
    intro i j c x hi hj
    obtain ⟨v, hv, hr⟩ := row_cell hrow hb (get i c hi).1 hj
    exact ⟨v, by rw [addr i c hi]; exact hv, hr⟩
  refine key hc (fun c hcm => ?_) (fun hne => ?_) (fun i j c hi hj => ?_) (fun i j c x hi hj => ?_)
  · obtain ⟨i, hi, rfl⟩ := List.getElem_of_mem hcm
    exact (hrow.2 _ _ (get i _ (List.getElem?_eq_getElem hi)).1).1
  · have h0 : len ≠ 0 := by intro e; subst e; simp at hne
    have : a = ⟨ρ l, off * sz, none⟩ := ha.resolve_left (by omega)
    subst this
    exact hS h0
  · have hcl := (hrow.2 _ _ (get i c hi).1).1
    obtain ⟨v, hv, _⟩ := cell i j c c[j] hi (List.getElem?_eq_getElem (by omega))
    rw [hv]; rfl
  · obtain ⟨v, hv, hr⟩ := cell i j c x hi hj
    rw [hv]; exact hr

theorem vwD_rel (hi : Inv ρ S H w) {v : AV} {x : D} (h : vwD H v = some x) {y : Value} (hr : RelA ρ S H w v y) {S' : Nat → Prop} (hS : ∀ b, S b → S' b)
    (hl : ∀ l ∈ arrsOf v, (∃ sz m, m ≠ 0 ∧ CntD H l sz m) → S' (ρ l)) : RelD S' w x y := by
  cases v with
  | d z =>
    simp only [vwD] at h; cases h
    cases hr with
    | d _ _ hd => exact hd.norm.mono hS fun _ _ => rfl
  | os l n off len =>
    cases hr with
    | os _ _ _ _ _ _ ho =>
      simp only [vwD] at h
      split at h
      · rename_i sz es he
        split at h
        · rename_i hc
          cases h
          rcases (ho sz n (cnt_arr he hc.1)).2 rfl with ⟨_, rfl, b, rfl⟩ | ⟨⟨hn, _⟩, hos⟩
          · simpa using RelD.vnil (S := S') (w := w) false b
          have hne : es ≠ [] := by intro e; subst e; exact hn hc.1.symm
          obtain ⟨vs, T, hb, hrow⟩ := (hi.obj l _ he).2 hne
          exact rows_rel hb (hrow.mono hS fun _ _ => rfl) hc.1 hc.2 hos fun _ => hl l (by simp [arrsOf]) ⟨sz, n, hn, es, .inl he, hc.1⟩
        · cases h
      · rename_i sz es he
        split at h
        · rename_i hc
          cases h
          rcases (ho sz n (cnt_fz he hc.1)).2 rfl with ⟨_, rfl, b, rfl⟩ | ⟨⟨hn, _⟩, hos⟩
          · simpa using RelD.vnil (S := S') (w := w) false b
          have hne : es ≠ [] := by intro e; subst e; exact hn hc.1.symm
          obtain ⟨hs, vs, T, fr, hb, hrow⟩ := (hi.obj l _ he).2 hne
          exact rows_rel hb (hrow.mono hS fun _ _ => rfl) hc.1 hc.2 hos fun _ => hS _ hs
        · cases h
      · cases h
  | _ => simp [vwD] at h

theorem vwDs_solid {cs : List AV} {ds : List D} (h : vwDs H cs = some ds) : cs.all flatA = true := by
  rw [List.all_eq_true]
  intro v hv
  obtain ⟨k, hk, rfl⟩ := List.getElem_of_mem hv
  obtain ⟨x, _, hx⟩ := (vwDs_get h).2 k _ (List.getElem?_eq_getElem hk)
  exact vwD_solid hx

/-- the cells of a value as data -/
theorem cellsD_rel (hi : Inv ρ S H w) {v : AV} {ds : List D} (h : vwDs H (cellsOf v) = some ds) {y : Value} (hr : RelA ρ S H w v y) {S' : Nat → Prop} (hS : ∀ b, S b → S' b)
    (hl : ∀ l ∈ (cellsOf v).flatMap arrsOf, (∃ sz m, m ≠ 0 ∧ CntD H l sz m) → S' (ρ l)) :
    ds.length = y.cells.size ∧ (∀ x ∈ y.cells.toList, Flat x) ∧ ∀ (k : Nat) (x : D), ds[k]? = some x → ∃ z, y.cells[k]? = some z ∧ RelD S' w x z := by
  have hs : solid v = true := vwDs_solid h
  obtain ⟨h1, h2⟩ := cells_rel hs hr
  obtain ⟨h3, h4⟩ := vwDs_get h
  refine ⟨by omega, cells_flat hs hr, fun k x hk => ?_⟩
  have hk' : k < (cellsOf v).length := by rw [← h3]; exact (List.getElem?_eq_some_iff.1 hk).1
  obtain ⟨z, hz, _, hrz⟩ := h2 k _ (List.getElem?_eq_getElem hk')
  obtain ⟨x', hx', hvx⟩ := h4 k _ (List.getElem?_eq_getElem hk')
  rw [hk] at hx'; cases hx'
  exact ⟨z, hz, vwD_rel hi hvx hrz hS fun l hl' => hl l (List.mem_flatMap.2 ⟨_, List.getElem_mem hk', hl'⟩)⟩

abbrev No : Nat → Prop := fun _ => False

/-- one cell list into another: what stands where -/
theorem put_cells {α β : Type} {R : α → β → Prop} {c : List α} {vs : List β} {j : Nat} {a : List α} {b : List β} (h1 : c.length ≤ vs.length) (h2 : a.length = b.length) (h3 : j + a.length ≤ c.length)
    (hc : ∀ (k : Nat) (x : α), c[k]? = some x → ∃ v, vs[k]? = some v ∧ R x v) (ha : ∀ (k : Nat) (x : α), a[k]? = some x → ∃ v, b[k]? = some v ∧ R x v) :
    ∀ (k : Nat) (x : α), (put c j a)[k]? = some x → ∃ v, (put vs j b)[k]? = some v ∧ R x v := by
  intro k x hk
  rw [put_get c j a h3] at hk
  rw [put_get vs j b (by omega)]
  split at hk
  · rename_i h; rw [if_pos h]; exact hc k x hk
  · rename_i h; rw [if_neg h]
    split at hk
    · rename_i h'; rw [if_pos (by omega)]; exact ha _ x hk
    · rename_i h'; rw [if_neg (by omega)]; exact hc k x hk

theorem store_rel {t : TypeId} {sz : Nat} (hz : szOf P t = sz) (h0 : sz ≠ 0) (hi : Inv ρ S H w) {x v : AV} {y z : Value}
    (hx : RelA ρ S H w x y) (hv : RelA ρ S H w v z) {u : Upd} (h : astore H sz x v = some u) :
    ∃ w', (Instr.storeAt t y z).run P w = .ok () w' ∧ ∃ ρ' S', Step No ρ S H w ρ' S' (applyU H u) w' := by
  simp only [astore] at h
  split at h
  · rename_i hlen
    cases x with
    | pv l j =>
      simp only at h
      split at h
      · rename_i c hc
        split at h
        · rename_i hcond
          cases h
          obtain ⟨hle, hs⟩ := hcond
          cases hx with
          | pv _ _ _ _ hp =>
            have hp := hp ⟨c, hc⟩
            subst hp
            obtain ⟨vs, T, hb, hsz, G, hG, hcell⟩ := hi.obj l _ hc
            obtain ⟨h1, h2⟩ := cells_rel hs hv
            have hfl := cells_flat hs hv
            have hrun := storeVar_run (P := P) (x := z) hz h0 hb (by omega) (show j + sz ≤ vs.size by omega) hfl
            have hpl : (put vs.toList j z.cells.toList).length = vs.toList.length := put_length _ _ _ (by simp; omega)
            obtain ⟨g1, g2, g3, g4⟩ := setRow_grow (cs' := (put vs.toList j z.cells.toList).toArray) hb (by simpa using hpl)
            refine ⟨w.setRow (ρ l) (put vs.toList j z.cells.toList).toArray, ?_, updK ρ l (ρ l) (ρ.hid l), S, ?_⟩
            · simp only [Instr.storeAt, Instr.sureAddr, Sem.run_bind, Sem.run_pure, Result.andThen_ok, hrun]
            refine step_writeK hi l _ (ρ l) _ _ (.inr ⟨⟨_, hc, rfl⟩, rfl⟩) (fun c' h' => ⟨⟨_, hc, rfl⟩, h'⟩) g2 g1 g3 (.inr (comp_var hc)) (.inl id) ?_
            intro hrel _ hKw hSw
            have hlp : (put c j (cellsOf v)).length = c.length := put_length c j (cellsOf v) (by omega)
            refine ⟨_, T, g4, ?_, G, by rw [hlp]; exact hG, ?_⟩
            · rw [hlp]; simpa [hsz] using hpl
            · intro k q hk
              have hklt : k < c.length := by rw [← hlp]; exact (List.getElem?_eq_some_iff.1 hk).1
              have hget := put_get c j (cellsOf v) (by omega) k
              have hgetv := put_get vs.toList j z.cells.toList (by simp; omega) k
              rw [hk] at hget
              have old : c[k]? = some q → vs.toList[k]? = (put vs.toList j z.cells.toList)[k]? → ∃ y0, (put vs.toList j z.cells.toList).toArray[k]? = some y0 ∧ Flat y0 ∧ CellR (updK ρ l (ρ l) (ρ.hid l)) S (hset H l (.var (put c j (cellsOf v)))) (w.setRow (ρ l) (put vs.toList j z.cells.toList).toArray) (G k) q y0 := by
                intro h e
                obtain ⟨y, hy, hf, hr⟩ := hcell k q h
                refine ⟨y, by rw [List.getElem?_toArray, ← e]; simpa using hy, hf, ?_⟩
                refine hr.keep (fun _ h => h) hSw g1 (fun c' hc' => hKw c' (hG.1 k c' hklt hc')) (fun _ h => h) fun m hm => ?_
                by_cases em : m = l
                · subst em; exact comp_var hc
                · exact comp_ne em
              have hzl : z.cells.toList.length = (cellsOf v).length := by simp; omega
              by_cases h1' : k < j
              · rw [if_pos h1'] at hget hgetv
                exact old hget.symm hgetv.symm
              · rw [if_neg h1'] at hget hgetv
                by_cases h2' : k < j + (cellsOf v).length
                · rw [if_pos h2'] at hget
                  rw [if_pos (by omega)] at hgetv
                  obtain ⟨y, hy, hf, hr⟩ := h2 (k - j) q hget.symm
                  refine ⟨y, by rw [List.getElem?_toArray, hgetv]; simpa using hy, hf, ?_⟩
                  refine .solid (hrel _ _ (fun _ _ => .inr id) hr) ?_
                  rw [solid, List.all_eq_true] at hs
                  exact hs q (List.mem_of_getElem? hget.symm)
                · rw [if_neg h2'] at hget
                  rw [if_neg (by omega)] at hgetv
                  exact old hget.symm hgetv.symm
        · cases h
      · cases h
    | pa l n i j =>
      simp only at h
      split at h
      · rename_i zz es hes
        split at h
        · rename_i hcond
          obtain ⟨hn, hnot⟩ := hcond
          split at h
          · rename_i c ds hci hds
            split at h
            · rename_i hle
              cases h
              cases hx with
              | pa _ _ _ _ _ _ hp =>
                have hp := (hp zz n (cnt_arr hes hn)).2 rfl
                subst hp
                obtain ⟨S1, st1, hS1, hk1, _⟩ := step_frzs (N := No) hi ((cellsOf v).flatMap arrsOf)
                have hl1 : hget (applyU H (frz H ((cellsOf v).flatMap arrsOf))) l = some (.arr zz es) := by rw [hk1 l (by simpa using hnot)]; exact hes
                obtain ⟨hd1, hd2, hd3⟩ := cellsD_rel hi hds hv st1.sub hS1
                have hesne : es ≠ [] := by intro e; subst e; simp at hci
                have hpos := (st1.inv.obj l _ hl1).1
                obtain ⟨vs, T, hb, hrow⟩ := (st1.inv.obj l _ hl1).2 hesne
                have hcl := (hrow.2 i c hci).1
                have hil : i < es.length := (List.getElem?_eq_some_iff.1 hci).1
                have hdl : ds.length = sz := by rw [hd1]; have := (cells_rel (vwDs_solid hds) hv).1; omega
                have hbnd : i * zz + zz ≤ vs.size := by
                  have : (i + 1) * zz ≤ es.length * zz := Nat.mul_le_mul_right _ hil
                  rw [Nat.add_mul, Nat.one_mul] at this
                  exact Nat.le_trans this hrow.1
                have hrun := storeVar_run (P := P) (x := z) hz h0 hb (by omega) (show i * zz + j + sz ≤ vs.size by omega) hd2
                have hpl : (put vs.toList (i * zz + j) z.cells.toList).length = vs.toList.length := put_length _ _ _ (by simp; omega)
                obtain ⟨g1, g2, g3, g4⟩ := setRow_grow (cs' := (put vs.toList (i * zz + j) z.cells.toList).toArray) hb (by simpa using hpl)
                refine ⟨w.setRow (ρ l) (put vs.toList (i * zz + j) z.cells.toList).toArray, ?_, upd ρ l (ρ l), S1, ?_⟩
                · simp only [Instr.storeAt, Instr.sureAddr, Sem.run_bind, Sem.run_pure, Result.andThen_ok, hrun]
                have happ : applyU H (frz H ((cellsOf v).flatMap arrsOf) ++ [(l, .arr zz (es.set i (put c j ds)))]) = hset (applyU H (frz H ((cellsOf v).flatMap arrsOf))) l (.arr zz (es.set i (put c j ds))) := by
                  simp [applyU, List.foldl_append]
                rw [happ]
                have hpc : (put c j ds).length = zz := by rw [put_length c j ds (by omega)]; exact hcl
                refine (st1.trans (step_write (N := No) st1.inv l (.arr zz (es.set i (put c j ds))) (ρ l) _ (.inr ⟨⟨_, hl1, by simpa [isLive] using hesne⟩, rfl⟩) g2 g1 g3 (.inr (comp_arr hl1 (by simp) (fun _ => rfl))) (.inl id) ?_)).weaken (fun _ h => h.elim id id)
                intro _ hrelD
                refine ⟨hpos, fun _ => ⟨_, T, g4, by simp only [List.length_set]; simpa using Nat.le_trans hrow.1 (by simpa using Nat.le_of_eq hpl.symm), fun i' c' hi' => ?_⟩⟩
                rw [List.getElem?_set] at hi'
                by_cases e : i = i'
                · subst e
                  rw [if_pos rfl, if_pos hil] at hi'
                  cases hi'
                  refine ⟨hpc, fun k x hk => ?_⟩
                  have hkz : k < zz := by rw [← hpc]; exact (List.getElem?_eq_some_iff.1 hk).1
                  rw [put_get c j ds (by omega)] at hk
                  have hput := put_get vs.toList (i * zz + j) z.cells.toList (by simp; omega) (i * zz + k)
                  by_cases h1 : k < j
                  · rw [if_pos h1] at hk
                    obtain ⟨q, hq, hr⟩ := (hrow.2 i c hci).2 k x hk
                    refine ⟨q, ?_, hrelD _ _ hr⟩
                    rw [if_pos (by omega)] at hput
                    simpa [hput] using hq
                  · rw [if_neg h1] at hk
                    by_cases h2 : k < j + ds.length
                    · rw [if_pos h2] at hk
                      obtain ⟨q, hq, hr⟩ := hd3 _ x hk
                      refine ⟨q, ?_, hrelD _ _ hr⟩
                      rw [if_neg (by omega), if_pos (by simp; omega), show i * zz + k - (i * zz + j) = k - j by omega] at hput
                      simpa [hput] using hq
                    · rw [if_neg h2] at hk
                      obtain ⟨q, hq, hr⟩ := (hrow.2 i c hci).2 k x hk
                      refine ⟨q, ?_, hrelD _ _ hr⟩
                      rw [if_neg (by omega), if_neg (by simp; omega)] at hput
                      simpa [hput] using hq
                · rw [if_neg e] at hi'
                  refine ⟨(hrow.2 i' c' hi').1, fun k x hk => ?_⟩
                  obtain ⟨q, hq, hr⟩ := (hrow.2 i' c' hi').2 k x hk
                  have hkz : k < zz := by rw [← (hrow.2 i' c' hi').1]; exact (List.getElem?_eq_some_iff.1 hk).1
                  refine ⟨q, ?_, hrelD _ _ hr⟩
                  have hput := put_get vs.toList (i * zz + j) z.cells.toList (by simp; omega) (i' * zz + k)
                  have hout : i' * zz + k < i * zz + j ∨ i * zz + j + sz ≤ i' * zz + k := by
                    rcases Nat.lt_or_gt_of_ne e with h | h
                    · right
                      have : (i + 1) * zz ≤ i' * zz := Nat.mul_le_mul_right _ h
                      rw [Nat.add_mul, Nat.one_mul] at this
                      omega
                    · left
                      have : (i' + 1) * zz ≤ i * zz := Nat.mul_le_mul_right _ h
                      rw [Nat.add_mul, Nat.one_mul] at this
                      omega
                  have hzl : z.cells.toList.length = sz := by simp; omega
                  rcases hout with h | h
                  · rw [if_pos h] at hput; simpa [hput] using hq
                  · rw [if_neg (by omega), if_neg (by omega)] at hput; simpa [hput] using hq
            · cases h
          · cases h
        · cases h
      · rename_i zz es hes
        split at h
        · rename_i hcond
          obtain ⟨hn, hs⟩ := hcond
          split at h
          · rename_i c hci
            split at h
            · rename_i hle
              cases h
              cases hx with
              | pa _ _ _ _ _ _ hp =>
                have hp := (hp zz n (cnt_oar hes hn)).2 rfl
                subst hp
                have hesne : es ≠ [] := by intro e; subst e; simp at hci
                obtain ⟨hpos, hrl, hrest⟩ := hi.obj l _ hes
                obtain ⟨vs, T, hb, hvsz, G, hG, hcell⟩ := hrest hesne
                have hcl := hrl c (List.mem_of_getElem? hci)
                have hil : i < es.length := (List.getElem?_eq_some_iff.1 hci).1
                obtain ⟨h1, h2⟩ := cells_rel hs hv
                have hfl := cells_flat hs hv
                have hbnd : i * zz + zz ≤ vs.size := by
                  have : (i + 1) * zz ≤ es.length * zz := Nat.mul_le_mul_right _ hil
                  rw [Nat.add_mul, Nat.one_mul] at this
                  exact Nat.le_trans this hvsz
                have hrun := storeVar_run (P := P) (x := z) hz h0 hb (by omega) (show i * zz + j + sz ≤ vs.size by omega) hfl
                have hpl : (put vs.toList (i * zz + j) z.cells.toList).length = vs.toList.length := put_length _ _ _ (by simp; omega)
                obtain ⟨g1, g2, g3, g4⟩ := setRow_grow (cs' := (put vs.toList (i * zz + j) z.cells.toList).toArray) hb (by simpa using hpl)
                refine ⟨w.setRow (ρ l) (put vs.toList (i * zz + j) z.cells.toList).toArray, ?_, updK ρ l (ρ l) (ρ.hid l), S, ?_⟩
                · simp only [Instr.storeAt, Instr.sureAddr, Sem.run_bind, Sem.run_pure, Result.andThen_ok, hrun]
                refine step_writeK hi l _ (ρ l) _ _ (.inr ⟨⟨_, hes, by simpa [isLive] using hesne⟩, rfl⟩) (fun c' h' => ⟨⟨_, hes, by simpa [isLive] using hesne⟩, h'⟩) g2 g1 g3 (.inr (comp_oar hes (by simp) (fun _ => rfl))) (.inl id) ?_
                intro hrel _ hKw hSw
                have hpc : (put c j (cellsOf v)).length = zz := by rw [put_length c j (cellsOf v) (by omega)]; exact hcl
                refine ⟨hpos, fun c' hc' => ?_, fun _ => ⟨_, T, g4, by simp only [List.length_set]; simpa using Nat.le_trans hvsz (by simpa using Nat.le_of_eq hpl.symm), G, by simpa using hG, fun i' c' hi' k q hk => ?_⟩⟩
                · rcases List.mem_or_eq_of_mem_set hc' with h | rfl
                  · exact hrl c' h
                  · exact hpc
                have hzl : z.cells.toList.length = (cellsOf v).length := by simp; omega
                have hput := put_get vs.toList (i * zz + j) z.cells.toList (by simp; omega) (i' * zz + k)
                have old : ∀ c0, es[i']? = some c0 → c0[k]? = some q → vs.toList[i' * zz + k]? = (put vs.toList (i * zz + j) z.cells.toList)[i' * zz + k]? →
                    ∃ y, (put vs.toList (i * zz + j) z.cells.toList).toArray[i' * zz + k]? = some y ∧ Flat y ∧
                      CellR (updK ρ l (ρ l) (ρ.hid l)) S (hset H l (.oar zz (es.set i (put c j (cellsOf v))))) (w.setRow (ρ l) (put vs.toList (i * zz + j) z.cells.toList).toArray) (G (i' * zz + k)) q y := by
                  intro c0 h0 hq e
                  obtain ⟨y, hy, hf, hr⟩ := hcell i' c0 h0 k q hq
                  refine ⟨y, by rw [List.getElem?_toArray, ← e]; simpa using hy, hf, ?_⟩
                  have hlt := row_lt h0 (hrl c0 (List.mem_of_getElem? h0)) (List.getElem?_eq_some_iff.1 hq).1
                  refine hr.keep (fun _ h => h) hSw g1 (fun c' hc' => hKw c' (hG.1 _ c' hlt hc')) (fun _ h => h) fun m hm => ?_
                  by_cases em : m = l
                  · subst em; exact comp_oar hes (by simp) (fun _ => rfl)
                  · exact comp_ne em
                rw [List.getElem?_set] at hi'
                by_cases e : i = i'
                · subst e
                  rw [if_pos rfl, if_pos hil] at hi'
                  cases hi'
                  have hkz : k < zz := by rw [← hpc]; exact (List.getElem?_eq_some_iff.1 hk).1
                  rw [put_get c j (cellsOf v) (by omega)] at hk
                  by_cases h1' : k < j
                  · rw [if_pos h1'] at hk
                    rw [if_pos (by omega)] at hput
                    exact old c hci hk hput.symm
                  · rw [if_neg h1'] at hk
                    by_cases h2' : k < j + (cellsOf v).length
                    · rw [if_pos h2'] at hk
                      rw [if_neg (by omega), if_pos (by omega), show i * zz + k - (i * zz + j) = k - j by omega] at hput
                      obtain ⟨y, hy, hf, hr⟩ := h2 (k - j) q hk
                      refine ⟨y, by rw [List.getElem?_toArray, hput]; simpa using hy, hf, ?_⟩
                      refine .solid (hrel _ _ (fun _ _ => .inr id) hr) ?_
                      rw [solid, List.all_eq_true] at hs
                      exact hs q (List.mem_of_getElem? hk)
                    · rw [if_neg h2'] at hk
                      rw [if_neg (by omega), if_neg (by omega)] at hput
                      exact old c hci hk hput.symm
                · rw [if_neg e] at hi'
                  have hkz : k < zz := by rw [← hrl c' (List.mem_of_getElem? hi')]; exact (List.getElem?_eq_some_iff.1 hk).1
                  have hout : i' * zz + k < i * zz + j ∨ i * zz + j + sz ≤ i' * zz + k := by
                    rcases Nat.lt_or_gt_of_ne e with h | h
                    · right
                      have : (i + 1) * zz ≤ i' * zz := Nat.mul_le_mul_right _ h
                      rw [Nat.add_mul, Nat.one_mul] at this
                      omega
                    · left
                      have : (i' + 1) * zz ≤ i * zz := Nat.mul_le_mul_right _ h
                      rw [Nat.add_mul, Nat.one_mul] at this
                      omega
                  rcases hout with h | h
                  · rw [if_pos h] at hput; exact old c' hi' hk hput.symm
                  · rw [if_neg (by omega), if_neg (by omega)] at hput; exact old c' hi' hk hput.symm
            · cases h
          · cases h
        · cases h
      · cases h
    | _ => simp at h
  · cases h

end
end Bz

/- What is led to from one place alone gets a name, and loses it. -/
namespace Bz
open Go

section
variable {ρ : Nm} {S : Nat → Prop} {H : Heap} {w : World}

theorem comp_same {ρ ρ' : Nm} {H H' : Heap} {l : Nat} (h : hget H' l = hget H l) (hr : ρ' l = ρ l) : Comp ρ H l ρ' H' l :=
  ⟨fun sz m hm => ⟨m, by simpa [Cnt, h] using hm, Nat.le_refl _, fun _ => hr⟩, fun hv => ⟨by simpa [IsVar, h] using hv, hr⟩, fun hv => ⟨by simpa [IsMp, h] using hv, hr⟩⟩

theorem comp_dead {ρ ρ' : Nm} {H H' : Heap} {l l' : Nat} (h : hget H' l' = none) : Comp ρ H l ρ' H' l' := by
  refine ⟨fun sz m hm => (cnt_none h hm).elim, fun hv => ?_, fun hv => ?_⟩
  · obtain ⟨cs, he⟩ := hv; rw [h] at he; cases he
  · obtain ⟨ag, ks, cs, he⟩ := hv; rw [h] at he; cases he

/-- objects of one kind, rows of one bulk -/
def likeO : AObj → AObj → Prop
  | .var _, .var _ => True
  | .oar sz es, .oar sz' es' => sz = sz' ∧ es.length = es'.length
  | _, _ => False

theorem comp_like {ρ ρ' : Nm} {H H' : Heap} {l : Nat} {o o' : AObj} (h : hget H l = some o) (h' : hget H' l = some o') (hl : likeO o o') (hr : ρ' l = ρ l) : Comp ρ H l ρ' H' l := by
  refine ⟨fun sz m hm => ⟨m, ?_, Nat.le_refl _, fun _ => hr⟩, fun hv => ⟨?_, hr⟩, fun hv => ⟨?_, hr⟩⟩
  · have := cnt_of h' hm
    refine ⟨o, h, ?_⟩
    cases o <;> cases o' <;> simp only [likeO] at hl <;> simp_all [rowsOf]
  · obtain ⟨cs, hv⟩ := hv
    rw [h'] at hv; cases hv
    cases o <;> simp only [likeO] at hl
    exact ⟨_, h⟩
  · obtain ⟨ag, ks, cs, hv⟩ := hv
    rw [h'] at hv; cases hv
    cases o <;> simp only [likeO] at hl

theorem likeO_live {o o' : AObj} (h : likeO o o') : isLive o' = isLive o := by
  cases o <;> cases o' <;> simp only [likeO] at h <;> simp only [isLive]
  rename_i es _ es'
  obtain ⟨_, h⟩ := h
  cases es <;> cases es' <;> simp_all

/-- an object's cells, in a row -/
theorem open_core {N : Nat → Prop} (hi : Inv ρ S H w) {l nm : Nat} (hne : nm ≠ l) {ol ol' : AObj} (hl : hget H l = some ol) (hlv : isLive ol = true) (hlike : likeO ol ol') {F K : Nat → Prop} {b : Nat} {o : AObj}
    (hF : ∀ c, F c → ρ.hid l c) (hFb : F b) (hK : ∀ c, K c → F c ∧ c ≠ b) (hN : N nm) (hNl : ¬ N l) (hnm : ∀ m q, hget H m = some q → m ≠ nm → nm ∉ refsO q)
    (hobj : ∀ (ρ' : Nm) (H' : Heap), ρ' nm = b → hget H' nm = some o → (∀ k, k ≠ nm → Comp ρ H k ρ' H' k) → ObjAt ρ' S H' w (fun c => ρ.hid l c ∧ ¬ F c) (ρ l) ol' ∧ ObjAt ρ' S H' w K b o) :
    ∃ ρ' : Nm, ρ' nm = b ∧ (∀ k, k ≠ nm → Comp ρ H k ρ' (hset (hset H l ol') nm o) k) ∧ Step N ρ S H w ρ' S (hset (hset H l ol') nm o) w := by
  have hL : Live H l := ⟨ol, hl, hlv⟩
  let ρ' : Nm := updK (updK ρ l (ρ l) (fun c => ρ.hid l c ∧ ¬ F c)) nm b K
  have r1 : ρ' nm = b := updK_self ..
  have r2 : ∀ k, k ≠ nm → ρ' k = ρ k := fun k hk => by
    show updK _ nm b K k = _
    rw [updK_ne _ b K hk]
    by_cases e : k = l
    · subst e; exact updK_self ..
    · exact updK_ne ρ _ _ e
  have h1 : ρ'.hid nm = K := updK_hid ..
  have h2 : ρ'.hid l = fun c => ρ.hid l c ∧ ¬ F c := by
    show (updK _ nm b K).hid l = _
    rw [updK_hid_ne _ b K hne.symm]; exact updK_hid ..
  have h3 : ∀ k, k ≠ nm → k ≠ l → ρ'.hid k = ρ.hid k := fun k e1 e2 => by
    show (updK _ nm b K).hid k = _
    rw [updK_hid_ne _ b K e1, updK_hid_ne ρ _ _ e2]
  have g1 : hget (hset (hset H l ol') nm o) nm = some o := hget_set_self ..
  have g2 : hget (hset (hset H l ol') nm o) l = some ol' := by rw [hget_set_ne _ _ hne.symm]; exact hget_set_self ..
  have g3 : ∀ k, k ≠ nm → k ≠ l → hget (hset (hset H l ol') nm o) k = hget H k := fun k e1 e2 => by rw [hget_set_ne _ _ e1, hget_set_ne _ _ e2]
  have comp : ∀ k, k ≠ nm → Comp ρ H k ρ' (hset (hset H l ol') nm o) k := fun k hk => by
    by_cases e : k = l
    · subst e; exact comp_like hl g2 hlike (r2 _ hk)
    · exact comp_same (g3 k hk e) (r2 k hk)
  have hob := hobj ρ' _ r1 g1 comp
  have foot : ∀ k c, Live (hset (hset H l ol') nm o) k → Ftp ρ' k c → (k = nm ∧ F c) ∨ (k = l ∧ Ftp ρ l c ∧ ¬ F c) ∨ (k ≠ nm ∧ k ≠ l ∧ Live H k ∧ Ftp ρ k c) := by
    intro k c hk hf
    by_cases e1 : k = nm
    · subst e1
      rcases hf with hf | hf
      · rw [r1] at hf; exact .inl ⟨rfl, hf ▸ hFb⟩
      · rw [h1] at hf; exact .inl ⟨rfl, (hK c hf).1⟩
    · by_cases e2 : k = l
      · subst e2
        rcases hf with hf | hf
        · rw [r2 _ e1] at hf
          exact .inr (.inl ⟨rfl, .inl hf, fun q => hi.hno _ hL (by rw [hf]; exact hF c q)⟩)
        · rw [h2] at hf; exact .inr (.inl ⟨rfl, .inr hf.1, hf.2⟩)
      · refine .inr (.inr ⟨e1, e2, ?_, ?_⟩)
        · obtain ⟨q, hq, hl⟩ := hk; rw [g3 k e1 e2] at hq; exact ⟨q, hq, hl⟩
        · unfold Ftp at hf ⊢; rwa [r2 k e1, h3 k e1 e2] at hf
  refine ⟨ρ', r1, comp, ⟨⟨fun k q hq => ?_, fun k k' c hk hk' hf hf' => ?_, fun k c hk hf => ?_, hi.dom, fun k c hk hc => ?_, fun k hk hc => ?_⟩, fun _ h => h, fun _ h => .inl h, fun _ _ _ => rfl, .refl w, Nat.le_refl _, fun k c hk hf => ?_, fun k hk => comp k fun e => hk (e ▸ hN),
    ⟨rfl, rfl, rfl, Nat.le_refl _⟩⟩⟩
  · by_cases e1 : k = nm
    · subst e1; rw [g1] at hq; cases hq; rw [r1, h1]; exact hob.2
    · by_cases e2 : k = l
      · subst e2; rw [g2] at hq; cases hq; rw [r2 _ e1, h2]; exact hob.1
      · rw [g3 k e1 e2] at hq
        rw [r2 k e1, h3 k e1 e2]
        exact (hi.obj k q hq).keep (fun _ => rfl) (fun _ _ _ => rfl) (fun _ h => h) (fun _ _ => rfl) (.refl w) fun m hm => comp m fun e => hnm k q hq e1 (e ▸ hm)
  · rcases foot k c hk hf with ⟨e1, f1⟩ | ⟨e1, f1, f1'⟩ | ⟨e1, e2, L1, f1⟩ <;> rcases foot k' c hk' hf' with ⟨e3, f3⟩ | ⟨e3, f3, f3'⟩ | ⟨e3, e4, L3, f3⟩
    · rw [e1, e3]
    · exact absurd f1 f3'
    · exact absurd (hi.inj k' l c L3 hL f3 (.inr (hF c f1))) e4
    · exact absurd f3 f1'
    · rw [e1, e3]
    · exact absurd (hi.inj k' l c L3 hL f3 f1) e4
    · exact absurd (hi.inj k l c L1 hL f1 (.inr (hF c f3))) e2
    · exact absurd (hi.inj k l c L1 hL f1 f3) e2
    · exact hi.inj k k' c L1 L3 f1 f3
  · rcases foot k c hk hf with ⟨e1, f1⟩ | ⟨e1, f1, f1'⟩ | ⟨e1, e2, L1, f1⟩
    · exact hi.sep l c hL (.inr (hF c f1))
    · exact hi.sep l c hL f1
    · exact hi.sep k c L1 f1
  · rcases foot k c hk (.inr hc) with ⟨e1, f1⟩ | ⟨e1, f1, f1'⟩ | ⟨e1, e2, L1, f1⟩
    · exact hi.hlt l c hL (hF c f1)
    · exact hi.foot_lt hL f1
    · exact hi.foot_lt L1 f1
  · by_cases e1 : k = nm
    · subst e1; rw [h1, r1] at hc; exact (hK _ hc).2 rfl
    · by_cases e2 : k = l
      · subst e2; rw [h2, r2 _ e1] at hc; exact hi.hno _ hL hc.1
      · rw [h3 k e1 e2, r2 k e1] at hc
        obtain ⟨q, hq, hlq⟩ := hk
        rw [g3 k e1 e2] at hq
        exact hi.hno k ⟨q, hq, hlq⟩ hc
  · rcases foot k c hk hf with ⟨e1, f1⟩ | ⟨e1, f1, f1'⟩ | ⟨e1, e2, L1, f1⟩
    · exact .inr ⟨l, hL, .inr (hF c f1)⟩
    · exact .inr ⟨l, hL, f1⟩
    · exact .inr ⟨k, L1, f1⟩

/-- an object folded into another one's cell -/
theorem close_core {N : Nat → Prop} (hi : Inv ρ S H w) {l nm : Nat} (hne : nm ≠ l) {ol ol' : AObj} (hl : hget H l = some ol) (hlv : isLive ol = true) (hlike : likeO ol ol')
    (hobj : ∀ (ρ' : Nm) (H' : Heap), (∀ k, Comp ρ H k ρ' H' k) → ObjAt ρ' S H' w (fun c => ρ.hid l c ∨ (Live H nm ∧ Ftp ρ nm c)) (ρ l) ol') :
    ∃ ρ' : Nm, Step N ρ S H w ρ' S (hdel (hset H l ol') nm) w := by
  have hL : Live H l := ⟨ol, hl, hlv⟩
  let ρ' : Nm := updK ρ l (ρ l) (fun c => ρ.hid l c ∨ (Live H nm ∧ Ftp ρ nm c))
  have r2 : ∀ k, ρ' k = ρ k := fun k => by
    by_cases e : k = l
    · subst e; exact updK_self ..
    · exact updK_ne ρ _ _ e
  have h2 : ρ'.hid l = fun c => ρ.hid l c ∨ (Live H nm ∧ Ftp ρ nm c) := updK_hid ..
  have h3 : ∀ k, k ≠ l → ρ'.hid k = ρ.hid k := fun k e2 => updK_hid_ne ρ _ _ e2
  have gd : ∀ (A : Heap) k, hget (hdel A nm) k = if k = nm then none else hget A k := by
    intro A k
    unfold hdel
    induction A with
    | nil => simp [hget]
    | cons x r ih =>
      obtain ⟨m, q⟩ := x
      by_cases e : m = nm
      · subst e
        simp only [List.filter, bne_self_eq_false]
        rw [ih]
        by_cases e : k = m
        · simp [e]
        · simp [hget, e]
      · have : (m != nm) = true := by simpa using e
        simp only [List.filter, this, hget]
        by_cases e2 : k = m
        · subst e2; simp [e]
        · simp [e2, ih]
  have g1 : hget (hdel (hset H l ol') nm) nm = none := by rw [gd]; simp
  have g2 : hget (hdel (hset H l ol') nm) l = some ol' := by rw [gd, if_neg hne.symm]; exact hget_set_self ..
  have g3 : ∀ k, k ≠ nm → k ≠ l → hget (hdel (hset H l ol') nm) k = hget H k := fun k e1 e2 => by rw [gd, if_neg e1, hget_set_ne _ _ e2]
  have comp : ∀ k, Comp ρ H k ρ' (hdel (hset H l ol') nm) k := fun k => by
    by_cases e1 : k = nm
    · subst e1; exact comp_dead g1
    · by_cases e : k = l
      · subst e; exact comp_like hl g2 hlike (r2 _)
      · exact comp_same (g3 k e1 e) (r2 k)
  have foot : ∀ k c, Live (hdel (hset H l ol') nm) k → Ftp ρ' k c → (k = l ∧ (Ftp ρ l c ∨ (Live H nm ∧ Ftp ρ nm c))) ∨ (k ≠ nm ∧ k ≠ l ∧ Live H k ∧ Ftp ρ k c) := by
    intro k c hk hf
    by_cases e1 : k = nm
    · subst e1; obtain ⟨q, hq, _⟩ := hk; rw [g1] at hq; cases hq
    · by_cases e2 : k = l
      · subst e2
        rcases hf with hf | hf
        · rw [r2] at hf; exact .inl ⟨rfl, .inl (.inl hf)⟩
        · rw [h2] at hf
          rcases hf with hf | hf
          · exact .inl ⟨rfl, .inl (.inr hf)⟩
          · exact .inl ⟨rfl, .inr hf⟩
      · refine .inr ⟨e1, e2, ?_, ?_⟩
        · obtain ⟨q, hq, hl⟩ := hk; rw [g3 k e1 e2] at hq; exact ⟨q, hq, hl⟩
        · unfold Ftp at hf ⊢; rwa [r2 k, h3 k e2] at hf
  refine ⟨ρ', ⟨⟨fun k q hq => ?_, fun k k' c hk hk' hf hf' => ?_, fun k c hk hf => ?_, hi.dom, fun k c hk hc => ?_, fun k hk hc => ?_⟩, fun _ h => h, fun _ h => .inl h, fun _ _ _ => rfl, .refl w, Nat.le_refl _, fun k c hk hf => ?_, fun k _ => comp k,
    ⟨rfl, rfl, rfl, Nat.le_refl _⟩⟩⟩
  · by_cases e1 : k = nm
    · subst e1; rw [g1] at hq; cases hq
    · by_cases e2 : k = l
      · subst e2; rw [g2] at hq; cases hq; rw [r2 _, h2]; exact hobj ρ' _ comp
      · rw [g3 k e1 e2] at hq
        rw [r2 k, h3 k e2]
        exact (hi.obj k q hq).keep (fun _ => rfl) (fun _ _ _ => rfl) (fun _ h => h) (fun _ _ => rfl) (.refl w) fun m _ => comp m
  · rcases foot k c hk hf with ⟨e1, f1⟩ | ⟨e1, e2, L1, f1⟩ <;> rcases foot k' c hk' hf' with ⟨e3, f3⟩ | ⟨e3, e4, L3, f3⟩
    · rw [e1, e3]
    · rcases f1 with f1 | ⟨Ln, f1⟩
      · exact absurd (hi.inj k' l c L3 hL f3 f1) e4
      · exact absurd (hi.inj k' nm c L3 Ln f3 f1) e3
    · rcases f3 with f3 | ⟨Ln, f3⟩
      · exact absurd (hi.inj k l c L1 hL f1 f3) e2
      · exact absurd (hi.inj k nm c L1 Ln f1 f3) e1
    · exact hi.inj k k' c L1 L3 f1 f3
  · rcases foot k c hk hf with ⟨e1, f1 | ⟨Ln, f1⟩⟩ | ⟨e1, e2, L1, f1⟩
    · exact hi.sep l c hL f1
    · exact hi.sep nm c Ln f1
    · exact hi.sep k c L1 f1
  · rcases foot k c hk (.inr hc) with ⟨e1, f1 | ⟨Ln, f1⟩⟩ | ⟨e1, e2, L1, f1⟩
    · exact hi.foot_lt hL f1
    · exact hi.foot_lt Ln f1
    · exact hi.foot_lt L1 f1
  · by_cases e1 : k = nm
    · subst e1; obtain ⟨q, hq, _⟩ := hk; rw [g1] at hq; cases hq
    · by_cases e2 : k = l
      · subst e2; rw [h2, r2 _] at hc
        rcases hc with hc | ⟨Ln, hc⟩
        · exact hi.hno _ hL hc
        · exact hne (hi.inj nm k _ Ln hL hc (.inl rfl))
      · rw [h3 k e2, r2 k] at hc
        obtain ⟨q, hq, hlq⟩ := hk
        rw [g3 k e1 e2] at hq
        exact hi.hno k ⟨q, hq, hlq⟩ hc
  · rcases foot k c hk hf with ⟨e1, f1 | ⟨Ln, f1⟩⟩ | ⟨e1, e2, L1, f1⟩
    · exact .inr ⟨l, hL, f1⟩
    · exact .inr ⟨nm, Ln, f1⟩
    · exact .inr ⟨k, L1, f1⟩

/-! ### a cell's content -/
theorem ofO_rel {H' : Heap} {ρ' : Nm} {G : Nat → Prop} {x : O} {v : Value} (h : RelO S w G x v) : CellR ρ' S H' w G (ofO x) v := by
  cases h with
  | d _ x v h => exact .d x v h
  | own _ b T cs vs xs G' h1 h2 h3 h4 h5 h6 h7 => exact .own G b T cs vs xs G' h1 h2 h3 h4 h5 h6 h7
  | osl _ b T sz len cap es vs xs G' h1 h2 h3 h4 h5 h6 h7 h8 h9 h10 h11 h12 => exact .osl G b T sz len cap es vs xs G' h1 h2 h3 h4 h5 h6 h7 h8 h9 h10 h11 h12

theorem plainRow_get : ∀ {c : List O} {r : List D}, plainRow c = some r → r.length = c.length ∧ ∀ (j : Nat) (x : D), r[j]? = some x → c[j]? = some (.d x)
  | [], r, h => by simp only [plainRow] at h; cases h; simp
  | .d y :: c, r, h => by
    simp only [plainRow] at h
    obtain ⟨r', hr, rfl⟩ := Option.map_eq_some_iff.1 h
    obtain ⟨h1, h2⟩ := plainRow_get hr
    refine ⟨by simp [h1], fun j x hj => ?_⟩
    cases j with
    | zero => simp at hj; subst hj; rfl
    | succ j => simp at hj; simpa using h2 j x hj
  | .own _ :: _, r, h => by simp [plainRow] at h
  | .osl .. :: _, r, h => by simp [plainRow] at h

theorem plainRows_get : ∀ {es : List (List O)} {rs : List (List D)}, plainRows es = some rs → rs.length = es.length ∧ ∀ (i : Nat) (r : List D), rs[i]? = some r → ∃ c, es[i]? = some c ∧ r.length = c.length ∧ ∀ (j : Nat) (x : D), r[j]? = some x → c[j]? = some (.d x)
  | [], rs, h => by simp only [plainRows] at h; cases h; simp
  | c :: es, rs, h => by
    simp only [plainRows] at h
    split at h
    · rename_i x xs h1 h2
      cases h
      obtain ⟨g1, g2⟩ := plainRows_get h2
      refine ⟨by simp [g1], fun i r hi => ?_⟩
      cases i with
      | zero => simp at hi; subst hi; exact ⟨c, rfl, plainRow_get h1⟩
      | succ i => simp at hi; simpa using g2 i r hi
    · cases h

/-- where it stands, and what is beneath it -/
theorem unfold_rel {deep : Bool} {nm : Nat} {t : O} {v : AV} {o : AObj} (hu : unfold1 deep nm t = some (v, o)) {F : Nat → Prop} {z : Value} (h : RelO S w F t z) :
    ∃ (b : Nat) (K : Nat → Prop), F b ∧ (∀ c, K c → F c ∧ c ≠ b) ∧ flatA v = true ∧ (∀ t', v ≠ .ow t') ∧ ∀ (ρ' : Nm) (H' : Heap), ρ' nm = b → hget H' nm = some o → RelA ρ' S H' w v z ∧ ObjAt ρ' S H' w K b o := by
  cases h with
  | d _ x v h => simp [unfold1] at hu
  | own _ b T cs vs xs G h1 h2 h3 h4 h5 h6 h7 =>
    simp only [unfold1, Option.some.injEq, Prod.mk.injEq] at hu
    obtain ⟨rfl, rfl⟩ := hu
    refine ⟨b, fun c => F c ∧ c ≠ b, h3, fun c hc => hc, rfl, (fun t' e => by cases e), fun ρ' H' hr hg => ⟨.pv _ _ _ trivial fun _ => by rw [hr], vs, T, h1, by simpa using h2, G, ⟨fun j c hj hc => h5 j c (by simpa using hj) hc, fun i j c hi hj => h6 i j c (by simpa using hi) (by simpa using hj)⟩, fun j x hj => ?_⟩⟩
    rw [List.getElem?_map] at hj
    obtain ⟨y, hy, rfl⟩ := Option.map_eq_some_iff.1 hj
    exact ⟨xs j, (h4 j y hy).1, (h4 j y hy).2, ofO_rel (h7 j y hy)⟩
  | osl _ b T sz len cap es vs xs G h1 h2 h3 h4 h5 h6 h7 h8 h9 h10 h11 h12 =>
    simp only [unfold1, Option.some.injEq, Prod.mk.injEq] at hu
    obtain ⟨rfl, hu⟩ := hu
    have hes0 : es.length ≠ 0 := fun e => h4 (List.length_eq_zero_iff.1 e)
    have hsz : es.length * sz ≤ vs.size := Nat.le_trans (Nat.mul_le_mul_right _ h6) h7
    have hos : ∀ (ρ' : Nm) (H' : Heap), ρ' nm = b → hget H' nm = some o → rowsOf o = some (sz, es.length) → RelA ρ' S H' w (.os nm es.length 0 len) (.slice (some ⟨b, 0, none⟩) len cap) := by
      intro ρ' H' hr hg hrow
      refine .os _ _ _ _ _ trivial fun sz' m hm => ?_
      have := cnt_of hg hm
      rw [hrow] at this
      simp only [Option.some.injEq, Prod.mk.injEq] at this
      obtain ⟨rfl, rfl⟩ := this
      refine ⟨Nat.le_refl _, fun _ => .inr ⟨⟨hes0, fun a len' cap' e => ?_⟩, _, cap, vs, T, (0, 0), rfl, by omega, .inr (by rw [hr, Nat.zero_mul]), by rw [hr]; exact h1, .inr (by rw [Nat.zero_add]; exact h7)⟩⟩
      cases e; omega
    refine ⟨b, fun c => F c ∧ c ≠ b, h2, fun c hc => hc, rfl, (fun t' e => by cases e), fun ρ' H' hr hg => ?_⟩
    have oar : o = .oar sz (es.map fun c => c.map ofO) → RelA ρ' S H' w (.os nm es.length 0 len) (.slice (some ⟨b, 0, none⟩) len cap) ∧ ObjAt ρ' S H' w (fun c => F c ∧ c ≠ b) b o := by
      intro ho
      refine ⟨hos ρ' H' hr hg (by rw [ho]; simp [rowsOf]), ?_⟩
      rw [ho]
      refine ⟨h3, fun c hc => ?_, fun _ => ⟨vs, T, h1, by simpa using hsz, G, ⟨fun j c hj hc => h10 j c (by simpa using hj) hc, fun i j c hi hj => h11 i j c (by simpa using hi) (by simpa using hj)⟩, fun i c hi j x hj => ?_⟩⟩
      · obtain ⟨c0, hc0, rfl⟩ := List.mem_map.1 hc
        simpa using h8 c0 hc0
      · rw [List.getElem?_map] at hi
        obtain ⟨c0, hc0, rfl⟩ := Option.map_eq_some_iff.1 hi
        rw [List.getElem?_map] at hj
        obtain ⟨y, hy, rfl⟩ := Option.map_eq_some_iff.1 hj
        exact ⟨_, (h9 i j c0 y hc0 hy).1, (h9 i j c0 y hc0 hy).2, ofO_rel (h12 i j c0 y hc0 hy)⟩
    split at hu
    · rename_i rs hrs
      obtain ⟨g1, g2⟩ := plainRows_get hrs
      have hrel : RowAt S w sz rs vs := by
        refine ⟨by rw [g1]; exact hsz, fun i c hi => ?_⟩
        obtain ⟨c0, hc0, e1, e2⟩ := g2 i c hi
        refine ⟨by rw [e1]; exact h8 c0 (List.mem_of_getElem? hc0), fun j x hj => ⟨_, (h9 i j c0 _ hc0 (e2 j x hj)).1, ?_⟩⟩
        have := h12 i j c0 _ hc0 (e2 j x hj)
        cases this with
        | d _ _ _ h => exact h
      refine ⟨hos ρ' H' hr hg (by rw [← hu]; simp [rowsOf, g1]), ?_⟩
      rw [← hu]
      exact ⟨h3, fun _ => ⟨vs, T, h1, hrel⟩⟩
    · exact oar hu.symm

theorem toO_rel {H' : Heap} {ρ' : Nm} {G : Nat → Prop} {x : AV} {t : O} {v : Value} (hx : toO x = some t) (h : CellR ρ' S H' w G x v) : RelO S w G t v := by
  cases x with
  | d y =>
    simp only [toO] at hx; cases hx
    cases h with
    | d _ _ h => exact .d _ _ _ h
  | ow t' => simp only [toO] at hx; cases hx; exact h
  | _ => simp [toO] at hx

theorem toOs_get : ∀ {cs : List AV} {ds : List O}, toOs cs = some ds → ds.length = cs.length ∧ ∀ (j : Nat) (t : O), ds[j]? = some t → ∃ x, cs[j]? = some x ∧ toO x = some t
  | [], ds, h => by simp only [toOs] at h; cases h; simp
  | c :: cs, ds, h => by
    simp only [toOs] at h
    split at h
    · rename_i x xs h1 h2
      cases h
      obtain ⟨g1, g2⟩ := toOs_get h2
      refine ⟨by simp [g1], fun j t hj => ?_⟩
      cases j with
      | zero => simp at hj; subst hj; exact ⟨c, rfl, h1⟩
      | succ j => simp at hj; simpa using g2 j t hj
    · cases h

theorem toOss_get : ∀ {es : List (List AV)} {ds : List (List O)}, toOss es = some ds → ds.length = es.length ∧ ∀ (i : Nat) (d : List O), ds[i]? = some d → ∃ c, es[i]? = some c ∧ toOs c = some d
  | [], ds, h => by simp only [toOss] at h; cases h; simp
  | c :: cs, ds, h => by
    simp only [toOss] at h
    split at h
    · rename_i x xs h1 h2
      cases h
      obtain ⟨g1, g2⟩ := toOss_get h2
      refine ⟨by simp [g1], fun j t hj => ?_⟩
      cases j with
      | zero => simp at hj; subst hj; exact ⟨c, rfl, h1⟩
      | succ j => simp at hj; simpa using g2 j t hj
    · cases h

/-- what a cell leads to, folded -/
theorem fold_rel (hi : Inv ρ S H w) {v v' : AV} {nm : Nat} (hf : fold1 H v = some (v', nm)) {z : Value} (hr : RelA ρ S H w v z) {ρ' : Nm} {H' : Heap} :
    CellR ρ' S H' w (fun c => Live H nm ∧ Ftp ρ nm c) v' z := by
  unfold fold1 at hf
  split at hf
  · rename_i l
    split at hf
    · split at hf
      · rename_i cs hcs
        obtain ⟨ds, hds, h⟩ := Option.map_eq_some_iff.1 hf
        cases h
        have hL : Live H nm := ⟨_, hcs, rfl⟩
        obtain ⟨vs, T, h1, h2, G, hG, h3⟩ := hi.obj nm _ hcs
        obtain ⟨g1, g2⟩ := toOs_get hds
        cases hr with
        | pv _ _ _ _ hp =>
          rw [hp ⟨cs, hcs⟩]
          have cell : ∀ j t, ds[j]? = some t → ∃ y, vs[j]? = some y ∧ Flat y ∧ RelO S w (G j) t y := fun j t hj => by
            obtain ⟨x, hx, ht⟩ := g2 j t hj
            obtain ⟨y, hy, hfl, hc⟩ := h3 j x hx
            exact ⟨y, hy, hfl, toO_rel ht hc⟩
          refine .own _ (ρ nm) T ds vs (fun j => vs.getD j undef) G h1 (by rw [h2, g1]) ⟨hL, .inl rfl⟩ (fun j t hj => ?_) (fun j c hj hg => ?_) (fun i j c hi' hj => hG.2 i j c (by omega) (by omega)) (fun j t hj => ?_)
          · obtain ⟨y, hy, hfl, _⟩ := cell j t hj
            simp only [Array.getD_eq_getD_getElem?, hy, Option.getD_some]; exact ⟨trivial, hfl⟩
          · have := hG.1 j c (by omega) hg
            exact ⟨⟨hL, .inr this⟩, fun e => hi.hno nm hL (e ▸ this)⟩
          · obtain ⟨y, hy, _, hc⟩ := cell j t hj
            simp only [Array.getD_eq_getD_getElem?, hy, Option.getD_some]; exact hc
      · cases hf
    · cases hf
  · rename_i l n len
    split at hf
    · split at hf
      · rename_i sz es hes
        split at hf
        · rename_i hc
          split at hf
          · rename_i hn
            cases hf
            cases hr with
            | os _ _ _ _ _ _ ho =>
              rcases (ho sz n (cnt_arr hes hc.1)).2 rfl with ⟨_, _, bb, rfl⟩ | ⟨⟨h0, _⟩, _⟩
              · exact .d _ _ (.vnil _ _)
              · exact absurd hn h0
          · rename_i hn
            cases hf
            have hne : es ≠ [] := by intro e; subst e; exact hn hc.1.symm
            have hL : Live H nm := ⟨_, hes, by simpa [isLive] using hne⟩
            obtain ⟨hpos, hrest⟩ := hi.obj nm _ hes
            obtain ⟨vs, T, h1, hrow⟩ := hrest hne
            cases hr with
            | os _ _ _ _ _ _ ho =>
              rcases (ho sz n (cnt_arr hes hc.1)).2 rfl with ⟨h0, _⟩ | ⟨⟨_, hcap⟩, a, cap, cs, T', fr', rfl, q1, q2, q3, q4⟩
              · exact absurd h0 hn
              · rw [h1] at q3; cases q3
                have hcap : n ≤ cap := by have := hcap _ _ _ rfl; omega
                have hcn : cap ≠ 0 := by omega
                have ha := q2.resolve_left hcn
                subst ha
                have q4 := q4.resolve_left hcn
                rw [Nat.zero_add] at q4
                rw [Nat.zero_mul]
                have hk : (es.take (max len 1)).length = max len 1 := by simp; omega
                have cell : ∀ i j c t, ((es.take (max len 1)).map fun c => c.map O.d)[i]? = some c → c[j]? = some t → ∃ y, vs[i * sz + j]? = some y ∧ Flat y ∧ RelO S w (fun _ => False) t y := by
                  intro i j c t hi' hj
                  rw [List.getElem?_map] at hi'
                  obtain ⟨c0, hc0, rfl⟩ := Option.map_eq_some_iff.1 hi'
                  rw [List.getElem?_map] at hj
                  obtain ⟨x, hx, rfl⟩ := Option.map_eq_some_iff.1 hj
                  rw [List.getElem?_take] at hc0
                  split at hc0
                  · obtain ⟨y, hy, hrl⟩ := (hrow.2 i c0 hc0).2 j x hx
                    exact ⟨y, hy, hrl.flat, .d _ _ _ hrl⟩
                  · cases hc0
                refine .osl _ (ρ nm) T sz len cap _ vs (fun j => vs.getD j undef) (fun _ _ => False) h1 ⟨hL, .inl rfl⟩ hpos (by intro e; have := congrArg List.length e; rw [List.length_map, hk, List.length_nil] at this; omega) (by rw [List.length_map, hk]; omega) (by rw [List.length_map, hk]; omega) q4 (fun c hc' => ?_) (fun i j c t hi' hj => ?_) (fun _ _ _ h => h.elim) (fun _ _ _ _ _ h => h.elim) (fun i j c t hi' hj => ?_)
                · obtain ⟨c0, hc0, rfl⟩ := List.mem_map.1 hc'
                  obtain ⟨i, hi', rfl⟩ := List.getElem_of_mem (List.mem_of_mem_take hc0)
                  simpa using (hrow.2 i _ (List.getElem?_eq_getElem hi')).1
                · obtain ⟨y, hy, hfl, _⟩ := cell i j c t hi' hj
                  simp only [Array.getD_eq_getD_getElem?, hy, Option.getD_some]; exact ⟨trivial, hfl⟩
                · obtain ⟨y, hy, _, hc'⟩ := cell i j c t hi' hj
                  simp only [Array.getD_eq_getD_getElem?, hy, Option.getD_some]; exact hc'
        · cases hf
      · rename_i sz es hes
        split at hf
        · rename_i hc
          split at hf
          · rename_i hn
            cases hf
            cases hr with
            | os _ _ _ _ _ _ ho =>
              rcases (ho sz n (cnt_oar hes hc.1)).2 rfl with ⟨_, _, bb, rfl⟩ | ⟨⟨h0, _⟩, _⟩
              · exact .d _ _ (.vnil _ _)
              · exact absurd hn h0
          · rename_i hn
            obtain ⟨ds, hds, h⟩ := Option.map_eq_some_iff.1 hf
            cases h
            have hne : es ≠ [] := by intro e; subst e; exact hn hc.1.symm
            have hL : Live H nm := ⟨_, hes, by simpa [isLive] using hne⟩
            obtain ⟨hpos, hrl, hrest⟩ := hi.obj nm _ hes
            obtain ⟨vs, T, h1, hvs, G, hG, hrow⟩ := hrest hne
            obtain ⟨g1, g2⟩ := toOss_get hds
            cases hr with
            | os _ _ _ _ _ _ ho =>
              rcases (ho sz n (cnt_oar hes hc.1)).2 rfl with ⟨h0, _⟩ | ⟨⟨_, hcap⟩, a, cap, cs, T', fr', rfl, q1, q2, q3, q4⟩
              · exact absurd h0 hn
              · rw [h1] at q3; cases q3
                have hcap : n ≤ cap := by have := hcap _ _ _ rfl; omega
                have hcn : cap ≠ 0 := by omega
                have ha := q2.resolve_left hcn
                subst ha
                have q4 := q4.resolve_left hcn
                rw [Nat.zero_add] at q4
                rw [Nat.zero_mul]
                have cell : ∀ i j d t, ds[i]? = some d → d[j]? = some t → ∃ y, vs[i * sz + j]? = some y ∧ Flat y ∧ RelO S w (G (i * sz + j)) t y := by
                  intro i j d t hi' hj
                  obtain ⟨c, hc', hd⟩ := g2 i d hi'
                  obtain ⟨x, hx, ht⟩ := (toOs_get hd).2 j t hj
                  obtain ⟨y, hy, hfl, hcr⟩ := hrow i c hc' j x hx
                  exact ⟨y, hy, hfl, toO_rel ht hcr⟩
                refine .osl _ (ρ nm) T sz len cap ds vs (fun j => vs.getD j undef) G h1 ⟨hL, .inl rfl⟩ hpos (by intro e; subst e; exact hne (List.length_eq_zero_iff.1 g1.symm)) (by omega) (by omega) q4 (fun d hd => ?_) (fun i j c t hi' hj => ?_) (fun j c hj hg => ?_) (fun i j c hi' hj => hG.2 i j c (by rw [← g1]; exact hi') (by rw [← g1]; exact hj)) (fun i j c t hi' hj => ?_)
                · obtain ⟨i, hi', rfl⟩ := List.getElem_of_mem hd
                  obtain ⟨c, hc', hd'⟩ := g2 i _ (List.getElem?_eq_getElem hi')
                  rw [(toOs_get hd').1]; exact hrl c (List.mem_of_getElem? hc')
                · obtain ⟨y, hy, hfl, _⟩ := cell i j c t hi' hj
                  simp only [Array.getD_eq_getD_getElem?, hy, Option.getD_some]; exact ⟨trivial, hfl⟩
                · have := hG.1 j c (by rw [← g1]; exact hj) hg
                  exact ⟨⟨hL, .inr this⟩, fun e => hi.hno nm hL (e ▸ this)⟩
                · obtain ⟨y, hy, _, hc'⟩ := cell i j c t hi' hj
                  simp only [Array.getD_eq_getD_getElem?, hy, Option.getD_some]; exact hc'
        · cases hf
      · cases hf
    · cases hf
  · cases hf

end
end Bz

/- Operations that turn nothing. -/
namespace Bz
open Go

section
variable {P : Program} {w : World} {ρ : Nm} {S : Nat → Prop} {H : Heap}

/-! ### constants and operands -/
theorem cvD_rel {v : Value} {x : D} (h : cvD v = some x) (S : Nat → Prop) (w : World) : RelD S w x v := by
  unfold cvD at h
  split at h <;> cases h
  · exact .int _ _
  · exact .bool _
  · rename_i s; obtain ⟨⟨l⟩⟩ := s; exact .str l
  · exact .vnil _ _
  · exact .nilp
  · exact .nilm
  · exact .nilf
  · exact .nili

theorem cvDs_get {vs : List Value} {ds : List D} (h : cvDs vs = some ds) : ds.length = vs.length ∧ ∀ (k : Nat) (v : Value), vs[k]? = some v → ∃ x, ds[k]? = some x ∧ cvD v = some x := by
  induction vs generalizing ds with
  | nil => simp [cvDs] at h; subst h; simp
  | cons a r ih =>
    simp only [cvDs] at h
    split at h
    · rename_i x xs hx hxs
      cases h
      obtain ⟨h1, h2⟩ := ih hxs
      refine ⟨by simp [h1], fun k c hk => ?_⟩
      cases k with
      | zero => simp at hk; subst hk; exact ⟨x, rfl, hx⟩
      | succ k => simp at hk; obtain ⟨y, hy, hv⟩ := h2 k c hk; exact ⟨y, by simpa using hy, hv⟩
    · cases h

theorem cv_rel {v : Value} {x : AV} (h : cv v = some x) : RelA ρ S H w x v := by
  unfold cv at h
  split at h
  · rename_i cs
    obtain ⟨ds, hds, rfl⟩ := Option.map_eq_some_iff.1 h
    obtain ⟨h1, h2⟩ := cvDs_get hds
    have get : ∀ (i : Nat) (x : AV), (ds.map AV.d)[i]? = some x → ∃ v, cs[i]? = some v ∧ RelA ρ S H w x v := by
      intro i x hi
      obtain ⟨y, hy, rfl⟩ := relA_map_d hi
      have hil : i < cs.toList.length := by rw [← h1]; exact (List.getElem?_eq_some_iff.1 hy).1
      obtain ⟨x', hx', hc⟩ := h2 i _ (List.getElem?_eq_getElem hil)
      rw [hy] at hx'; cases hx'
      refine ⟨cs.toList[i], by simp at hil; simp [hil], .d _ _ (cvD_rel hc S w)⟩
    refine .agg _ cs (fun i => (cs[i]?).getD undef) (by simp [h1]) (fun i x hi => ?_) (fun i x hi => ?_)
    · obtain ⟨v, hv, _⟩ := get i x hi; rw [hv]; rfl
    · obtain ⟨v, hv, hr⟩ := get i x hi; rw [hv]; exact hr
  · obtain ⟨d, hd, rfl⟩ := Option.map_eq_some_iff.1 h
    exact .d _ _ (cvD_rel hd S w)

theorem refsL_map_d (ds : List D) : refsL (ds.map AV.d) = [] := by
  induction ds with
  | nil => rfl
  | cons a r ih => simp [refsL, refs, ih]

theorem cv_refs {v : Value} {x : AV} (h : cv v = some x) : refs x = [] := by
  unfold cv at h
  split at h
  · obtain ⟨ds, _, rfl⟩ := Option.map_eq_some_iff.1 h
    simp only [refs]; exact refsL_map_d ds
  · obtain ⟨d, _, rfl⟩ := Option.map_eq_some_iff.1 h
    rfl

/-- an operand, on both sides -/
structure OpdRel (ρ : Nm) (S : Nat → Prop) (H : Heap) (w : World) (E : List AV) (x : AV) (v : Value) : Prop where
  rel : RelA ρ S H w x v
  sub : ∀ l ∈ refs x, l ∈ refsL E

theorem cvO_rel {E : List AV} {a : Act} (he : RelE ρ S H w E a.tmps) {x : Operand} {q : AOpd} (h : cvO x = some q) : OpdRel ρ S H w E (aev E q) (a.eval x) := by
  cases x with
  | tmp t =>
    simp only [cvO] at h; cases h
    exact ⟨he.at_ t, nth_refs E t⟩
  | const v =>
    simp only [cvO] at h
    obtain ⟨c, hc, rfl⟩ := Option.map_eq_some_iff.1 h
    exact ⟨cv_rel hc, by simp [aev, cv_refs hc]⟩
  | func f =>
    simp only [cvO] at h; cases h
    exact ⟨.fn f [] #[] (fun _ => undef) rfl (by simp) (by simp), by simp [aev, refs, refsL]⟩
  | global g => simp [cvO] at h

theorem cvOs_get {xs : List Operand} {qs : List AOpd} (h : cvOs xs = some qs) : qs.length = xs.length ∧ ∀ (k : Nat) (x : Operand), xs[k]? = some x → ∃ q, qs[k]? = some q ∧ cvO x = some q := by
  induction xs generalizing qs with
  | nil => simp [cvOs] at h; subst h; simp
  | cons a r ih =>
    simp only [cvOs] at h
    split at h
    · rename_i x xs hx hxs
      cases h
      obtain ⟨h1, h2⟩ := ih hxs
      refine ⟨by simp [h1], fun k c hk => ?_⟩
      cases k with
      | zero => simp at hk; subst hk; exact ⟨x, rfl, hx⟩
      | succ k => simp at hk; obtain ⟨y, hy, hv⟩ := h2 k c hk; exact ⟨y, by simpa using hy, hv⟩
    · cases h

/-! ### scalars -/
theorem relA_int {k : IntKind} {n : Int} {v : Value} (h : RelA ρ S H w (.d (.int k n)) v) : v = .int k n := by
  cases h with | d _ _ h => cases h; rfl
theorem relA_bool {b : Bool} {v : Value} (h : RelA ρ S H w (.d (.bool b)) v) : v = .bool b := by
  cases h with | d _ _ h => cases h; rfl
theorem relA_str {s : List UInt8} {v : Value} (h : RelA ρ S H w (.d (.str s)) v) : v = .string ⟨s.toArray⟩ := by
  cases h with | d _ _ h => cases h; rfl

theorem rel_int (k : IntKind) (n : Int) : RelA ρ S H w (.d (.int k n)) (.int k n) := .d _ _ (.int k n)
theorem rel_bool (b : Bool) : RelA ρ S H w (boolV b) (.bool b) := .d _ _ (.bool b)
theorem rel_str (s : List UInt8) : RelA ρ S H w (.d (.str s)) (.string ⟨s.toArray⟩) := .d _ _ (.str s)

theorem intBin_rel {op : BinOp} {k : IntKind} {a b : Int} {v : AV} (t : TypeId) (h : intBin op k a b = some v) :
    ∃ y, (binOp op t (.int k a) (.int k b)).run P w = .ok y w ∧ RelA ρ S H w v y := by
  cases op <;> simp only [intBin] at h <;> (first | (cases h; done) | skip)
  case quo =>
    split at h
    · cases h
    · rename_i hb; cases h
      exact ⟨_, by simp [binOp, Op.intDiv, hb], rel_int _ _⟩
  case rem =>
    split at h
    · cases h
    · rename_i hb; cases h
      exact ⟨_, by simp [binOp, Op.intDiv, hb], rel_int _ _⟩
  all_goals (cases h; refine ⟨_, by simp only [binOp, ne_eq, not_true_eq_false, if_false, Op.intArith, Op.intCmp, Op.intBits, Sem.run_pure]; rfl, ?_⟩; first | exact rel_int _ _ | exact rel_bool _)

theorem strBin_rel {op : BinOp} {a b : List UInt8} {v : AV} (t : TypeId) (h : strBin op a b = some v) :
    ∃ y, (binOp op t (.string ⟨a.toArray⟩) (.string ⟨b.toArray⟩)).run P w = .ok y w ∧ RelA ρ S H w v y := by
  cases op <;> simp only [strBin] at h <;> (first | (cases h; done) | skip)
  case add =>
    split at h
    · rename_i hl; cases h
      refine ⟨.string ⟨(a ++ b).toArray⟩, ?_, rel_str _⟩
      have : ¬ (((⟨a.toArray⟩ : ByteArray).size + (⟨b.toArray⟩ : ByteArray).size : Nat) : Int) > IntKind.i64.max := by
        simp only [ByteArray.size, IntKind.max_i64, List.size_toArray]
        unfold LIM at hl; omega
      simp only [binOp, Op.stringOp, this, if_false, Sem.run_pure]
      congr 2
    · cases h
  all_goals (cases h; refine ⟨_, by simp only [binOp, Op.stringOp, Sem.run_pure]; rfl, ?_⟩; rw [ByteArray.toList_mk, ByteArray.toList_mk]; exact rel_bool _)

theorem abin_rel {op : BinOp} {x y v : AV} {a b : Value} (t : TypeId) (qx qy : Operand) (hx : RelA ρ S H w x a) (hy : RelA ρ S H w y b) (h : abin op x y = some v) :
    ∃ z, ((do eqGuard op t qx qy a b; binOp op t a b : Sem Value)).run P w = .ok z w ∧ RelA ρ S H w v z := by
  unfold abin at h
  split at h
  · rename_i k n k' m
    have := relA_int hx; have := relA_int hy; subst_vars
    rw [eqGuard_at_int]
    simp only [Sem.run_bind, Sem.run_pure, Result.andThen_ok]
    have key : (if k = k' then intBin op k n m else none) = some v → op ≠ .shl → op ≠ .shr → ∃ z, (binOp op t (.int k n) (.int k' m)).run P w = .ok z w ∧ RelA ρ S H w v z := by
      intro h _ _
      split at h
      · subst_vars; exact intBin_rel t h
      · cases h
    split at h
    · split at h
      · cases h
      · rename_i hm; cases h
        exact ⟨_, by simp only [binOp, Op.shift, hm, if_false, Sem.run_pure], rel_int _ _⟩
    · split at h
      · cases h
      · rename_i hm; cases h
        exact ⟨_, by simp only [binOp, Op.shift, hm, if_false, Sem.run_pure], rel_int _ _⟩
    · rename_i h1 h2; exact key h h1 h2
  · have := relA_str hx; have := relA_str hy; subst_vars
    rw [eqGuard_at_string]
    simp only [Sem.run_bind, Sem.run_pure, Result.andThen_ok]
    exact strBin_rel t h
  · cases h

theorem abinb_rel {neg : Bool} {x y v : AV} {a b : Value} (t : TypeId) (ht : P.underlying t = some .bool) (qx qy : Operand) (hx : RelA ρ S H w x a) (hy : RelA ρ S H w y b) (h : abinb neg x y = some v) :
    ∃ z, ((do eqGuard (if neg then .neq else .eql) t qx qy a b; binOp (if neg then .neq else .eql) t a b : Sem Value)).run P w = .ok z w ∧ RelA ρ S H w v z := by
  unfold abinb at h
  split at h
  · cases h
    have := relA_bool hx; have := relA_bool hy; subst_vars
    rw [eqGuard_at_bool]
    cases neg <;> exact ⟨_, by simp [binOp, Op.equal, Op.maxDepth, run_equalIn_bool' w 9999 t _ _ ht], rel_bool _⟩
  · cases h

/-- is it nil? -/
def nilOf : NK → Value
  | .p => .pointer none
  | .s => .slice none 0 0
  | .m => .map none
  | .f => .nilFunc

def kindOf : NK → TypeDesc → Prop
  | .p, .pointer _ => True
  | .s, .slice _ => True
  | .m, .map _ _ => True
  | .f, .func _ _ _ => True
  | _, _ => False

theorem nil_eq {k : NK} {v : Value} {b : Bool} {t : TypeId} {e : TypeDesc} (ht : P.underlying t = some e) (hk : kindOf k e) (dd : Nat)
    (h : (∃ p, k = .p ∧ v = .pointer p ∧ p.isNone = b) ∨ (∃ p n c, k = .s ∧ v = .slice p n c ∧ p.isNone = b) ∨ (∃ p, k = .m ∧ v = .map p ∧ p.isNone = b) ∨ (k = .f ∧ ((v = .nilFunc ∧ b = true) ∨ (∃ f a c, v = .func f a c ∧ b = false)))) :
    (Op.equalIn (dd + 1) t v (nilOf k)).run P w = .ok b w ∧ (Op.equalIn (dd + 1) t (nilOf k) v).run P w = .ok b w := by
  rcases h with ⟨p, rfl, rfl, rfl⟩ | ⟨p, n, c, rfl, rfl, rfl⟩ | ⟨p, rfl, rfl, rfl⟩ | ⟨rfl, ⟨rfl, rfl⟩ | ⟨f, a, c, rfl, rfl⟩⟩
  all_goals (cases e <;> simp only [kindOf] at hk)
  all_goals (simp only [Op.equalIn, nilOf, Sem.run_bind, run_underlying ht, Result.andThen_ok])
  · cases p <;> exact ⟨rfl, rfl⟩
  · cases p <;> exact ⟨rfl, rfl⟩
  · cases p <;> exact ⟨rfl, rfl⟩
  · exact ⟨rfl, rfl⟩
  · exact ⟨rfl, rfl⟩

theorem liveA_cnt {l n off len : Nat} (h : liveA H (.os l n off len) = true) : ∃ sz, Cnt H l sz n := by
  simp only [liveA] at h
  split at h
  · rename_i sz es e; exact ⟨sz, cnt_arr e (by simpa using h)⟩
  · rename_i sz es e; exact ⟨sz, cnt_fz e (by simpa using h)⟩
  · rename_i sz es e; exact ⟨sz, cnt_oar e (by simpa using h)⟩
  · cases h
theorem liveA_cnt' {l n i j : Nat} (h : liveA H (.pa l n i j) = true) : ∃ sz, Cnt H l sz n := by
  simp only [liveA] at h
  split at h
  · rename_i sz es e; exact ⟨sz, cnt_arr e (by simpa using h)⟩
  · rename_i sz es e; exact ⟨sz, cnt_fz e (by simpa using h)⟩
  · rename_i sz es e; exact ⟨sz, cnt_oar e (by simpa using h)⟩
  · cases h
theorem szAt_cnt {l sz sz' m : Nat} (h : szAt H sz l = true) (hc : Cnt H l sz' m) : sz' = sz := by
  obtain ⟨o, ho, hr⟩ := hc
  unfold szAt at h
  rw [ho] at h
  cases o <;> simp_all [rowsOf]
theorem liveA_var {l j : Nat} (h : liveA H (.pv l j) = true) : IsVar H l := by
  simp only [liveA] at h
  split at h
  · rename_i cs e; exact ⟨cs, e⟩
  · cases h
theorem liveA_mp {l : Nat} (h : liveA H (.map l) = true) : IsMp H l := by
  simp only [liveA] at h
  split at h
  · rename_i ag ks es e; exact ⟨ag, ks, es, e⟩
  · cases h

theorem isNil_rel {k : NK} {x : AV} {v : Value} {b : Bool} (hx : RelA ρ S H w x v) (hl : liveA H x = true) (h : isNil k x = some b)
    {t : TypeId} {d : TypeDesc} (ht : P.underlying t = some d) (hk : kindOf k d) :
    (Op.equal t v (nilOf k)).run P w = .ok b w ∧ (Op.equal t (nilOf k) v).run P w = .ok b w := by
  refine nil_eq ht hk 9999 ?_
  unfold isNil at h
  split at h <;> first | (cases h; done) | skip
  all_goals (first | (injection h with h; subst h) | skip)
  · cases hx with | d _ _ hd => cases hd; exact .inr (.inl ⟨_, _, _, rfl, rfl, rfl⟩)
  · rename_i h
    split at h
    · cases h
    rename_i hlen
    cases h
    cases hx with
    | os _ _ _ _ _ _ ho =>
      obtain ⟨sz, hc⟩ := liveA_cnt hl
      rcases (ho sz _ hc).2 rfl with ⟨_, e, _⟩ | ⟨_, a, cap, cs, T, fr, rfl, _⟩
      · exact absurd e hlen
      exact .inr (.inl ⟨_, _, _, rfl, rfl, rfl⟩)
  · cases hx with | d _ _ hd => cases hd; exact .inl ⟨_, rfl, rfl, rfl⟩
  · cases hx with | pv _ _ _ _ ho => exact .inl ⟨_, rfl, ho (liveA_var hl), rfl⟩
  · cases hx with
    | pa _ _ _ _ _ _ ho =>
      obtain ⟨sz, hc⟩ := liveA_cnt' hl
      exact .inl ⟨_, rfl, (ho sz _ hc).2 rfl, rfl⟩
  · cases hx with | vp => exact .inl ⟨_, rfl, rfl, rfl⟩
  · cases hx with | d _ _ hd => cases hd; exact .inr (.inr (.inl ⟨_, rfl, rfl, rfl⟩))
  · cases hx with | map _ _ _ ho => exact .inr (.inr (.inl ⟨_, rfl, ho (liveA_mp hl), rfl⟩))
  · cases hx with | d _ _ hd => cases hd; exact .inr (.inr (.inr ⟨rfl, .inl ⟨rfl, rfl⟩⟩))
  · cases hx with | fn => exact .inr (.inr (.inr ⟨rfl, .inr ⟨_, _, _, rfl, rfl⟩⟩))

/-! ### other plain operations -/
theorem aun_rel {op : UnOp} {x v : AV} {a : Value} (hx : RelA ρ S H w x a) (h : aun op x = some v) : ∃ y, (Op.unary op a).run P w = .ok y w ∧ RelA ρ S H w v y := by
  unfold aun at h
  split at h
  · cases h; have := relA_int hx; subst this
    exact ⟨_, by simp only [Op.unary, Op.intArith, Sem.run_pure], rel_int _ _⟩
  · cases h; have := relA_bool hx; subst this
    exact ⟨_, by simp only [Op.unary, Sem.run_pure], rel_bool _⟩
  · cases h; have := relA_int hx; subst this
    exact ⟨_, by simp only [Op.unary, Op.intBits, Sem.run_pure], rel_int _ _⟩
  · cases h

theorem asI_rel {x : AV} {n : Int} {v : Value} (h : asI x = some n) (hx : RelA ρ S H w x v) : ∃ k, v = .int k n := by
  unfold asI at h
  split at h
  · cases h; exact ⟨_, relA_int hx⟩
  · cases h

/-- the bounds of a slice expression, as the model asks them -/
inductive OptRel (ρ : Nm) (S : Nat → Prop) (H : Heap) (w : World) : Option AV → Option Value → Prop
  | none : OptRel ρ S H w none none
  | some (x : AV) (v : Value) : RelA ρ S H w x v → OptRel ρ S H w (some x) (some v)

theorem bound_run (k : IntKind) (i : Int) (y : Nat) (code : BoundsCode) (h0 : 0 ≤ i) (h1 : i ≤ y) : (Instr.sliceBound (.int k i) y code).run P w = .ok i.toNat w :=
  run_sliceBound w k i y code h0 h1

theorem nowhere_spec {lo mx : Option AV} (h : nowhere lo mx = true) : ∃ m, mx.map asI = some (some m) ∧ ((lo = none ∧ m = 0) ∨ lo.map asI = some (some m)) := by
  unfold nowhere at h
  split at h
  · rename_i k m
    split at h
    · exact ⟨m, rfl, .inl ⟨rfl, by simpa using h⟩⟩
    · rename_i k' l
      exact ⟨m, rfl, .inr (by simp only [beq_iff_eq] at h; subst h; rfl)⟩
    · cases h
  · cases h

theorem bounds_rel {len cap : Nat} {lo hi mx : Option AV} {l' h' : Nat} {vlo vhi vmx : Option Value} (isS : Bool) (hcap : len ≤ cap) (h : bounds len len lo hi mx = some (l', h')) (hmh : mx.isSome = true → hi.isSome = true)
    (h1 : OptRel ρ S H w lo vlo) (h2 : OptRel ρ S H w hi vhi) (h3 : OptRel ρ S H w mx vmx) :
    l' ≤ h' ∧ h' ≤ len ∧ ∃ m, h' ≤ m ∧ m ≤ cap ∧ ((nowhere lo mx = true → m = l') ∧ (mx = none → m = cap) ∧ ∀ q : Int, mx.bind asI = some q → (m : Int) = q) ∧ (Instr.sliceBounds isS len cap vlo vhi vmx).run P w = .ok (l', h', m) w := by
  unfold bounds at h
  have hx : ∀ {o : Option AV} {v : Option Value}, OptRel ρ S H w o v → (o = none ∧ v = none) ∨ (∃ x u, o = some x ∧ v = some u ∧ RelA ρ S H w x u) := by
    intro o v h; cases h
    · exact .inl ⟨rfl, rfl⟩
    · exact .inr ⟨_, _, rfl, rfl, by assumption⟩
  have hi' : ∀ {x : AV} {u : Value}, RelA ρ S H w x u → asI x = none ∨ ∃ n k, asI x = some n ∧ u = .int k n := by
    intro x u hr
    cases e : asI x with
    | none => exact .inl rfl
    | some n => obtain ⟨k, hk⟩ := asI_rel e hr; exact .inr ⟨n, k, rfl, hk⟩
  rcases hx h1 with ⟨rfl, rfl⟩ | ⟨x1, u1, rfl, rfl, r1⟩ <;> rcases hx h2 with ⟨rfl, rfl⟩ | ⟨x2, u2, rfl, rfl, r2⟩ <;> rcases hx h3 with ⟨rfl, rfl⟩ | ⟨x3, u3, rfl, rfl, r3⟩
  all_goals (first
    | (exfalso; simp at hmh; done)
    | skip)
  all_goals (try (rcases hi' r1 with e1 | ⟨n1, k1, e1, rfl⟩))
  all_goals (try (rcases hi' r2 with e2 | ⟨n2, k2, e2, rfl⟩))
  all_goals (try (rcases hi' r3 with e3 | ⟨n3, k3, e3, rfl⟩))
  all_goals (simp only [Option.map_none, Option.map_some, *] at h)
  all_goals (first | (cases h; done) | skip)
  all_goals (split at h)
  all_goals (first | (cases h; done) | (rename_i hc; obtain ⟨c1, c2, c3, c4, c5⟩ := hc; cases h))
  all_goals (refine ⟨by omega, by omega, ?_⟩)
  all_goals (simp only [Instr.sliceBounds, Sem.run_bind, Sem.run_pure, Result.andThen_ok])
  · exact ⟨cap, by omega, by omega, ⟨(fun hw => by obtain ⟨m0, a, b⟩ := nowhere_spec hw; simp at a), fun _ => rfl, fun q hq => by simp at hq⟩, by simp⟩
  · refine ⟨cap, by omega, by omega, ⟨(fun hw => by obtain ⟨m0, a, b⟩ := nowhere_spec hw; simp at a), fun _ => rfl, fun q hq => by simp at hq⟩, ?_⟩
    rw [bound_run _ _ _ _ (by omega) (by omega)]; simp
  · refine ⟨n3.toNat, by omega, by omega, ⟨(fun hw => by obtain ⟨m0, a, b⟩ := nowhere_spec hw; simp [*] at a b; omega), (fun e => by simp at e), fun q hq => by simp [*] at hq; omega⟩, ?_⟩
    rw [bound_run k3 n3 _ _ (by omega) (by omega)]
    simp only [Result.andThen_ok]
    rw [bound_run k2 n2 _ _ (by omega) (by omega)]
    simp
  · refine ⟨cap, by omega, by omega, ⟨(fun hw => by obtain ⟨m0, a, b⟩ := nowhere_spec hw; simp at a), fun _ => rfl, fun q hq => by simp at hq⟩, ?_⟩
    rw [bound_run _ _ _ _ (by omega) (by omega)]; simp
  · refine ⟨cap, by omega, by omega, ⟨(fun hw => by obtain ⟨m0, a, b⟩ := nowhere_spec hw; simp at a), fun _ => rfl, fun q hq => by simp at hq⟩, ?_⟩
    rw [bound_run k2 n2 _ _ (by omega) (by omega)]
    simp only [Result.andThen_ok]
    rw [bound_run k1 n1 _ _ (by omega) (by omega)]; simp
  · refine ⟨n3.toNat, by omega, by omega, ⟨(fun hw => by obtain ⟨m0, a, b⟩ := nowhere_spec hw; simp [*] at a b; omega), (fun e => by simp at e), fun q hq => by simp [*] at hq; omega⟩, ?_⟩
    rw [bound_run k3 n3 _ _ (by omega) (by omega)]
    simp only [Result.andThen_ok]
    rw [bound_run k2 n2 _ _ (by omega) (by omega)]
    simp only [Result.andThen_ok]
    rw [bound_run k1 n1 _ _ (by omega) (by omega)]; simp

theorem OptRel.isSome {o : Option AV} {v : Option Value} (h : OptRel ρ S H w o v) : o.isSome = v.isSome := by cases h <;> rfl

end
end Bz

/- More operations that turn nothing: slices, fields, indexes, struct values, comparisons of structs, looking into maps. -/
namespace Bz
open Go

section
variable {P : Program} {w : World} {ρ : Nm} {S : Nat → Prop} {H : Heap}

theorem take_drop_extract (s : List UInt8) (l h : Nat) : (⟨s.toArray⟩ : ByteArray).extract l h = ⟨((s.drop l).take (h - l)).toArray⟩ := by
  apply ByteArray.ext
  rw [ByteArray.data_extract]
  simp [List.extract_eq_take_drop]

theorem sliced_some (a : Addr) (l h m sz : Nat) : sliced (some a) l h m sz = .slice (some (if m = l then a else a.add (l * sz))) (h - l) (m - l) := by
  unfold sliced; split <;> rfl

theorem slstr_rel {t : TypeId} (ht : P.underlying t = some .string) {s : List UInt8} {v : Value} (hx : RelA ρ S H w (.d (.str s)) v) {lo hi : Option AV} {vlo vhi : Option Value}
    (h1 : OptRel ρ S H w lo vlo) (h2 : OptRel ρ S H w hi vhi) {p : Nat × Nat} (h : bounds s.length s.length lo hi none = some p) :
    (Instr.sliceAt t v vlo vhi none).run P w = .ok (.string ⟨((s.drop p.1).take (p.2 - p.1)).toArray⟩) w := by
  have := relA_str hx; subst this
  obtain ⟨l, q⟩ := p
  obtain ⟨_, _, m, _, _, _, hb⟩ := bounds_rel (P := P) false (Nat.le_refl _) h (by simp) h1 h2 .none
  rw [run_sliceAt_string w t _ vlo vhi none ht]
  have hs : (⟨s.toArray⟩ : ByteArray).size = s.length := by simp [ByteArray.size]
  simp only [Instr.slice, Sem.run_bind, run_underlying ht, Result.andThen_ok, Option.isSome_none, Bool.false_eq_true, if_false, hs]
  simp only [Sem.run_bind, Sem.run_pure, Result.andThen_ok, hb]
  simp [take_drop_extract]

theorem RelD.slice {nl : Bool} {es : List (List D)} {v : Value} (hx : RelD S w (.vs nl es) v) {sz l h m : Nat} (hsz : ∀ c ∈ es, c.length = sz) (hl : l ≤ h) (hh : h ≤ es.length) (hm : h ≤ m) :
    ∃ a len cap, v = .slice a len cap ∧ len = es.length ∧ len ≤ cap ∧ (m ≤ cap → RelD S w (.vs nl ((es.drop l).take (h - l))) (sliced a l h m sz)) := by
  cases hx with
  | vnil t b =>
    refine ⟨b, 0, 0, rfl, rfl, Nat.le_refl _, fun hc => ?_⟩
    simp at hh
    have : m = 0 := by omega
    subst this; subst hh
    have : l = 0 := by omega
    subst this
    simp [sliced]; exact .vnil _ _
  | vs a sz' cap _ xs h1 h2 h3 h4 h5 =>
    refine ⟨some a, es.length, cap, rfl, rfl, h1, fun hc => ?_⟩
    have hlen : ((es.drop l).take (h - l)).length = h - l := by simp; omega
    have get : ∀ (i : Nat) (c : List D), ((es.drop l).take (h - l))[i]? = some c → es[l + i]? = some c ∧ i < h - l := by
      intro i c hi
      rw [List.getElem?_take] at hi
      split at hi
      · rw [List.getElem?_drop] at hi; exact ⟨hi, by assumption⟩
      · cases hi
    have szs : ∀ (i : Nat) (c : List D), ((es.drop l).take (h - l))[i]? = some c → sz = sz' := by
      intro i c hi
      have hm := List.mem_of_getElem? (get i c hi).1
      rw [← hsz c hm, h2 c hm]
    have key := RelD.vs (S := S) (w := w) (if m = l then a else a.add (l * sz)) sz (m - l) ((es.drop l).take (h - l)) (fun i j => xs (l + i) j)
    rw [hlen] at key
    unfold sliced
    have e2 : (if m = l then some a else (some a).map (·.add (l * sz))) = some (if m = l then a else a.add (l * sz)) := by split <;> rfl
    rw [e2]
    have blk : (if m = l then a else a.add (l * sz)).block = a.block := by split <;> simp [add_block]
    have adr : ∀ (i : Nat) (c : List D), ((es.drop l).take (h - l))[i]? = some c → (if m = l then a else a.add (l * sz)) = a.add (l * sz) := by
      intro i c hi
      have := (get i c hi).2
      rw [if_neg (by omega)]
    refine key (by omega) (fun c hcm => ?_) (fun hne => ?_) (fun i j c hi hj => ?_) (fun i j c x hi hj => ?_)
    · exact hsz c (List.mem_of_mem_drop (List.mem_of_mem_take hcm))
    · rw [blk]
      exact h3 (fun e => hne (by simp [e]))
    · rw [adr i c hi, add_add]
      have e := szs i c hi
      subst e
      rw [show l * sz + (i * sz + j) = (l + i) * sz + j by rw [Nat.add_mul]; omega]
      exact h4 _ _ c (get i c hi).1 hj
    · exact h5 _ _ c x (get i c hi).1 hj

theorem sliceAt_run {t e : TypeId} (ht : P.underlying t = some (.slice e)) (he : szOf P e ≠ 0) {a : Option Addr} {len cap l h m : Nat} {vlo vhi vmx : Option Value}
    (hb : (Instr.sliceBounds true len cap vlo vhi vmx).run P w = .ok (l, h, m) w) :
    (Instr.sliceAt t (.slice a len cap) vlo vhi vmx).run P w = .ok (sliced a l h m (szOf P e)) w := by
  simp only [Instr.sliceAt, Sem.run_bind, run_underlying ht, Result.andThen_ok]
  simp only [Instr.slice, Sem.run_bind, run_underlying ht, Result.andThen_ok, hb, run_size he, Sem.run_pure]
  rfl

/-- a slice of a slice; for data, the element's size is the type's -/
theorem slice_rel {t e : TypeId} (ht : P.underlying t = some (.slice e)) (he : szOf P e ≠ 0) (hi : Inv ρ S H w) {x v : AV} {y : Value} (hx : RelA ρ S H w x y) {lo hi' mx : Option AV} {vlo vhi vmx : Option Value}
    (h1 : OptRel ρ S H w lo vlo) (h2 : OptRel ρ S H w hi' vhi) (h3 : OptRel ρ S H w mx vmx) (hmh : mx.isSome = true → hi'.isSome = true) (hl : liveA H x = true) (h : aslice (szOf P e) H x lo hi' mx = some v) :
    ∃ z, (Instr.sliceAt t y vlo vhi vmx).run P w = .ok z w ∧ RelA ρ S H w v z := by
  cases x with
  | d x =>
    cases x with
    | vs nl es =>
      simp only [aslice] at h
      split at h
      · rename_i hs
        obtain ⟨⟨l, q⟩, hp, rfl⟩ := Option.map_eq_some_iff.1 h
        cases hx with
        | d _ _ hd =>
          have hsz : ∀ c ∈ es, c.length = szOf P e := by
            intro c hc
            simp only [sized, List.all_eq_true] at hs
            simpa using hs c hc
          have hb0 := bounds_rel (P := P) (cap := es.length) true (Nat.le_refl _) hp hmh h1 h2 h3
          obtain ⟨a, len, cap, rfl, rfl, hc, _⟩ := hd.slice (m := q) hsz hb0.1 hb0.2.1 (Nat.le_refl _)
          obtain ⟨_, _, m, hm1, hm2, hmw, hb⟩ := bounds_rel (P := P) true hc hp hmh h1 h2 h3
          obtain ⟨a', len', cap', e', _, _, hr⟩ := hd.slice (m := m) hsz hb0.1 hb0.2.1 hm1
          cases e'
          refine ⟨_, sliceAt_run ht he hb, ?_⟩
          split
          · rename_i hw
            have hml : m = l := hmw.1 hw
            have hql : q = l := by have := hb0.1; omega
            subst hml; subst hql
            refine .d _ _ ?_
            simp only [sliced, Nat.sub_self, if_true]
            exact .vnil _ _
          · exact .d _ _ (hr hm2)
      · cases h
    | _ => simp [aslice] at h
  | os l n off len =>
    simp only [aslice] at h
    split at h
    · rename_i hs
      obtain ⟨⟨a, b⟩, hp, rfl⟩ := Option.map_eq_some_iff.1 h
      cases hx with
      | os _ _ _ _ _ hf ho =>
        obtain ⟨sz0, hc0⟩ := liveA_cnt hl
        rcases (ho sz0 n hc0).2 rfl with ⟨rfl, rfl, bb, rfl⟩ | ⟨⟨hn0, hct⟩, ad, cap, cs, T, fr, rfl, hle, ha, hb', hsz⟩
        · obtain ⟨hl1, hl2, m, hm1, hm2, hmw, hb⟩ := bounds_rel (P := P) true (Nat.le_refl 0) hp hmh h1 h2 h3
          have hm0 : m = 0 := by omega
          have hb0 : b = 0 := by omega
          have ha0 : a = 0 := by omega
          subst hm0; subst hb0; subst ha0
          refine ⟨_, sliceAt_run ht he hb, ?_⟩
          simp only [sliced, Nat.sub_self, if_true]
          split
          · exact .d _ _ (.vnil _ _)
          · exact .os _ _ _ _ _ trivial fun sz1 m1 hc1 => ⟨((ho sz1 m1 hc1).1), fun en => .inl ⟨rfl, rfl, _, rfl⟩⟩
        obtain ⟨hl1, hl2, m, hm1, hm2, hmw, hb⟩ := bounds_rel (P := P) true hle hp hmh h1 h2 h3
        refine ⟨_, sliceAt_run ht he hb, ?_⟩
        split
        · rename_i hw
          have hml : m = a := hmw.1 hw
          have hql : b = a := by omega
          subst hml; subst hql
          refine .d _ _ ?_
          simp only [sliced, Nat.sub_self, if_true]
          exact .vnil _ _
        refine .os _ _ _ _ _ trivial fun sz1 m1 hc1 => ⟨((ho sz1 m1 hc1).1), fun en => ?_⟩
        -- one object, one size
        have e1 : sz1 = szOf P e := by
          have hs := (Bool.and_eq_true _ _ ▸ hs : _ ∧ _).1
          exact szAt_cnt hs hc1
        subst e1
        rcases (ho _ m1 hc1).2 en with ⟨e0, _⟩ | ⟨_, ad', cap', cs', T', fr', e2, _, ha', hb'', hsz'⟩
        · exact absurd e0 hn0
        cases e2
        rw [sliced_some]
        have hct' : CapTo n (off + a) (.slice (some (if m = a then ad else ad.add (a * szOf P e))) (b - a) (m - a)) := by
          intro _ _ c e4; cases e4
          have h6 := hct _ _ _ rfl
          simp only [Bool.and_eq_true, Bool.or_eq_true] at hs
          rcases hs.2 with (q | q) | q
          · have := hmw.2.1 (by simpa using q); omega
          · exact absurd q (by assumption)
          · have := hmw.2.2 _ (by simpa using q); omega
        refine .inr ⟨⟨hn0, hct'⟩, _, m - a, cs', T', fr', rfl, by omega, ?_, hb'', ?_⟩
        · by_cases e3 : m = a
          · exact .inl (by omega)
          · right
            have : ad = ⟨ρ l, off * szOf P e, none⟩ := ha'.resolve_left (by omega)
            subst this
            simp only [e3, if_false]
            rw [addr_add]
            congr 1
            rw [Nat.add_mul]
        · by_cases e3 : m = a
          · exact .inl (by omega)
          · right
            have h5 := hsz'.resolve_left (by omega)
            refine Nat.le_trans (Nat.mul_le_mul_right _ ?_) h5
            omega
    · cases h
  | _ => simp [aslice] at h

/-! ### fields and indexes -/
theorem faddr_rel {t : TypeId} {fs : Array Field} (ht : P.underlying t = some (.struct fs)) {i : Nat} {f : Field} (hf : fs[i]? = some f) (hz : szOf P f.type ≠ 0)
    {x v : AV} {y : Value} (hx : RelA ρ S H w x y) (hl : liveA H x = true)
    (h : afaddr f.offset x = some v) :
    ∃ z, (Instr.fieldAt t y i).run P w = .ok z w ∧ RelA ρ S H w v z := by
  have go : ∀ a : Addr, y = .pointer (some a) → (Instr.fieldAt t y i).run P w = .ok (.pointer (some (a.add f.offset))) w := by
    intro a e; subst e
    simp only [Instr.fieldAt, Sem.run_bind, run_underlying ht, Result.andThen_ok, hf, Instr.sureAddr, Sem.run_pure, fieldPlace, run_size hz, hz, if_false]
  cases x with
  | pv l j =>
    cases h
    cases hx with
    | pv _ _ _ _ hp =>
      have hv := liveA_var hl
      refine ⟨_, go _ (hp hv), .pv _ _ _ trivial fun _ => by rw [addr_add]⟩
  | pa l n i' j =>
    cases h
    cases hx with
    | pa _ _ _ _ _ _ hp =>
      obtain ⟨sz, hc⟩ := liveA_cnt' hl
      have e := (hp sz n hc).2 rfl
      refine ⟨_, go _ e, .pa _ _ _ _ _ trivial fun sz1 m1 hc1 => ⟨(hp sz1 m1 hc1).1, fun en => ?_⟩⟩
      have e1 := (hp sz1 m1 hc1).2 en
      rw [e] at e1
      have e2 := congrArg Addr.off (Option.some.inj (Value.pointer.inj e1))
      simp only at e2
      rw [addr_add, e2, Nat.add_assoc]
  | vp c j =>
    cases h
    cases hx with
    | vp _ _ a xs h1 h2 h3 =>
      refine ⟨_, go _ rfl, ?_⟩
      rw [add_add]
      exact .vp c _ a xs h1 h2 h3
  | _ => cases h

theorem iaddr_rel {t e : TypeId} (ht : P.underlying t = some (.slice e)) (he : szOf P e ≠ 0) {x q v : AV} {y z : Value} (hx : RelA ρ S H w x y) (hq : RelA ρ S H w q z) (hl : liveA H x = true)
    (h : aindex (szOf P e) H x q = some v) : ∃ u, (Instr.indexAt t y z).run P w = .ok u w ∧ RelA ρ S H w v u := by
  have go : ∀ (a : Addr) (len cap : Nat) (k : IntKind) (n : Int), y = .slice (some a) len cap → z = .int k n → 0 ≤ n → n < len →
      (Instr.indexAt t y z).run P w = .ok (.pointer (some (a.add (n.toNat * szOf P e)))) w := by
    intro a len cap k n e1 e2 h0 h1
    subst e1; subst e2
    simp only [Instr.indexAt, Sem.run_bind, asIntOf, Sem.run_pure, Result.andThen_ok, run_underlying ht, h0, h1, and_self, if_true, run_size he]
  unfold aindex at h
  split at h
  · rename_i nl es k n
    have := relA_int hq; subst this
    split at h
    · rename_i h0
      obtain ⟨c, hc, h⟩ := Option.bind_eq_some_iff.1 h
      split at h
      · rename_i hcl
        cases h
        cases hx with
        | d _ _ hd =>
          cases hd with
          | vnil _ _ => simp at hc
          | vs a sz cap _ xs h1 h2 h3 h4 h5 =>
            have hs : sz = szOf P e := by rw [← h2 c (List.mem_of_getElem? hc)]; exact hcl
            subst hs
            have hlt : n.toNat < es.length := (List.getElem?_eq_some_iff.1 hc).1
            refine ⟨_, go a _ _ k n rfl rfl h0 (by omega), ?_⟩
            have := RelA.vp (ρ := ρ) (S := S) (H := H) (w := w) c 0 (a.add (n.toNat * szOf P e)) (xs n.toNat) (by rw [add_block]; exact h3 (by intro e; simp [e] at hc)) (fun j x hj => ?_) (fun j x hj => h5 _ _ c x hc hj)
            · simpa [Addr.add] using this
            · rw [add_add]
              exact h4 _ _ c hc (by rw [← hcl]; exact (List.getElem?_eq_some_iff.1 hj).1)
      · cases h
    · cases h
  · rename_i l n off len k m
    have := relA_int hq; subst this
    split at h
    · rename_i hc
      obtain ⟨h0, h1, h2⟩ := hc
      cases h
      cases hx with
      | os _ _ _ _ _ _ ho =>
        obtain ⟨sz0, hc0⟩ := liveA_cnt hl
        rcases (ho sz0 n hc0).2 rfl with ⟨_, e0, _⟩ | ⟨_, a, cap, cs, T, fr, e1, hle, ha, _⟩
        · omega
        refine ⟨_, go a len cap k m e1 rfl h0 h1, .pa _ _ _ _ _ trivial fun sz1 m1 hc1 => ⟨(ho sz1 m1 hc1).1, fun en => ?_⟩⟩
        have e2 : sz1 = szOf P e := by
          exact szAt_cnt h2 hc1
        subst e2
        rcases (ho _ m1 hc1).2 en with ⟨_, e0, _⟩ | ⟨_, a', cap', _, _, _, e3, hle', ha', _⟩
        · omega
        rw [e1] at e3; cases e3
        have : a = ⟨ρ l, off * szOf P e, none⟩ := ha'.resolve_left (by omega)
        subst this
        rw [addr_add, Nat.add_zero, Nat.add_mul]
    · cases h
  · cases h

theorem idx_rel {t : TypeId} (ht : P.underlying t = some .string) {x q v : AV} {y z : Value} (hx : RelA ρ S H w x y) (hq : RelA ρ S H w q z) (h : aidx x q = some v) :
    ∃ r, (Instr.index t y z).run P w = .ok r w ∧ RelA ρ S H w v r := by
  unfold aidx at h
  split at h
  · rename_i s k n
    have := relA_str hx; have := relA_int hq; subst_vars
    split at h
    · rename_i h0
      obtain ⟨b, hb, e⟩ := Option.map_eq_some_iff.1 h
      cases e
      refine ⟨_, ?_, rel_int _ _⟩
      have hlt : n.toNat < s.length := (List.getElem?_eq_some_iff.1 hb).1
      have hg : (⟨s.toArray⟩ : ByteArray)[n.toNat]? = some b := by
        rw [ByteArray.getElem?_lt' _ _ (by simpa [ByteArray.size] using hlt)]
        have := (List.getElem?_eq_some_iff.1 hb).2
        rw [← this]; rfl
      simp only [Instr.index, Sem.run_bind, asIntOf, Sem.run_pure, Result.andThen_ok, run_underlying ht, h0, if_true, hg]
    · cases h
  · cases h

/-! ### a part of a struct value -/
theorem part_rel {t : TypeId} {sz : Nat} {ag : Bool} (hz : szOf P t = sz) (h0 : sz ≠ 0) (hg : aggOf P t = some ag) {cs : List AV} {vs : Array Value} {off : Nat}
    (hc : RelA ρ S H w (.agg cs) (.agg vs)) {ds : List AV} (hd : cut cs off sz = some ds) {v : AV} (hv : mkVal ag ds = some v) : ∃ z, (part t vs off).run P w = .ok z w ∧ RelA ρ S H w v z := by
  cases hc with
  | agg _ _ ys h1 h2 h3 =>
    obtain ⟨hl, hcut⟩ := cut_get hd
    obtain ⟨hle, _⟩ := cut_some hd
    unfold part
    simp only [Sem.run_bind, run_agg hg, Result.andThen_ok]
    cases ag with
    | false =>
      simp only [mkVal, Bool.false_eq_true, if_false] at hv
      match ds, hv with
      | [d], hv =>
        cases hv
        have := (hcut 0 _ rfl).1
        rw [Nat.add_zero] at this
        refine ⟨ys off, ?_, h3 _ _ this⟩
        simp [h2 _ _ this]
    | true =>
      simp only [mkVal, if_true] at hv
      cases hv
      have hz' : szOf P t ≠ 0 := by rw [hz]; exact h0
      simp only [if_true, Sem.run_bind, run_size hz', Result.andThen_ok, Sem.run_pure, hz]
      refine ⟨_, rfl, .agg ds _ (fun k => ys (off + k)) (by simp; omega) (fun i x hi => ?_) (fun i x hi => ?_)⟩
      · have := (hcut i x hi).1
        have hlt : i < sz := (hcut i x hi).2
        rw [Array.getElem?_extract, if_pos (by omega)]
        exact h2 _ _ this
      · exact h3 _ _ (hcut i x hi).1

/-! ### lengths -/
def lkOf : LK → TypeDesc → Prop
  | .str, .string => True
  | .sl, .slice _ => True
  | .mp, .map _ _ => True
  | _, _ => False

theorem len_rel {argTypes : Array TypeId} {ty t : TypeId} (hat : argTypes[0]? = some t) {d : TypeDesc} (ht : P.underlying t = some d) {k : LK} (hd : lkOf k d) (hi : Inv ρ S H w)
    {x v : AV} {y : Value} (hx : RelA ρ S H w x y) (hl : liveA H x = true) (h : alen H k x = some v) : ∃ z, (Builtin.len_ argTypes ty #[y]).run P w = .ok z w ∧ RelA ρ S H w v z := by
  have hy : (#[y] : Array Value)[0]? = some y := rfl
  simp only [Builtin.len_, hat, hy, Sem.run_bind, run_underlying ht, Result.andThen_ok]
  unfold alen at h
  split at h
  · rename_i s
    split at h
    · cases h
      have := relA_str hx; subst this
      cases d <;> simp only [lkOf] at hd
      exact ⟨_, rfl, by simpa [ByteArray.size, goInt, intV] using rel_int (ρ := ρ) (S := S) (H := H) (w := w) .i64 s.length⟩
    · cases h
  · rename_i nl es
    cases h
    cases d <;> simp only [lkOf] at hd
    cases hx with
    | d _ _ hd' => cases hd' <;> exact ⟨_, rfl, rel_int _ _⟩
  · rename_i l n off len
    cases h
    cases d <;> simp only [lkOf] at hd
    cases hx with
    | os _ _ _ _ _ _ ho =>
      obtain ⟨sz, hc⟩ := liveA_cnt hl
      rcases (ho sz _ hc).2 rfl with ⟨_, rfl, b, rfl⟩ | ⟨_, a, cap, _, _, _, rfl, _⟩
      · exact ⟨_, rfl, rel_int _ _⟩
      exact ⟨_, rfl, rel_int _ _⟩
  · cases d <;> simp only [lkOf] at hd
  · cases h
    cases d <;> simp only [lkOf] at hd
    cases hx with
    | d _ _ hd' => cases hd'; exact ⟨_, rfl, rel_int _ _⟩
  · rename_i l
    split at h
    · rename_i ag ks es hes
      cases h
      cases d <;> simp only [lkOf] at hd
      cases hx with
      | map _ _ _ hm =>
        have := hm ⟨ag, ks, es, hes⟩; subst this
        obtain ⟨ents, clk, hb, hsz, _⟩ := hi.obj l _ hes
        refine ⟨goInt ents.size, ?_, by rw [hsz.1]; exact rel_int _ _⟩
        simp [getObj, Sem.run, hb]
    · cases h
  · cases h

theorem cap_rel {argTypes : Array TypeId} {ty t e : TypeId} (hat : argTypes[0]? = some t) (ht : P.underlying t = some (.slice e))
    {x v : AV} {y : Value} (hx : RelA ρ S H w x y) (h : alen H .cp x = some v) : ∃ z, (Builtin.cap_ argTypes ty #[y]).run P w = .ok z w ∧ RelA ρ S H w v z := by
  have hy : (#[y] : Array Value)[0]? = some y := rfl
  simp only [Builtin.cap_, hat, hy, Sem.run_bind, run_underlying ht, Result.andThen_ok]
  cases x with
  | d x =>
    cases x with
    | vs nl es =>
      cases nl <;> cases es <;> simp only [alen] at h <;> cases h
      cases hx with
      | d _ _ hd' => cases hd'; exact ⟨_, rfl, rel_int _ _⟩
    | _ => simp [alen] at h
  | _ => simp [alen] at h

end
end Bz

/- Struct values and slices that are built; what is made anew. -/
namespace Bz
open Go

section
variable {P : Program} {w : World} {ρ : Nm} {S : Nat → Prop} {H : Heap}

theorem fold_put : ∀ (vs : List Value) (n off : Nat) (cs : Array Value), off + n + vs.length ≤ cs.size →
    ((vs.zipIdx n).foldl (fun cs p => cs.setIfInBounds (off + p.2) p.1) cs).toList = put cs.toList (off + n) vs
  | [], n, off, cs, _ => by simp [put]
  | v :: r, n, off, cs, h => by
    simp only [List.zipIdx_cons, List.foldl_cons]
    rw [fold_put r (n + 1) off _ (by simp at h ⊢; omega)]
    apply List.ext_getElem?
    intro k
    simp only [List.length_cons] at h
    rw [put_get _ _ _ (by simp; omega), put_get _ _ _ (by simp; omega)]
    simp only [Array.toList_setIfInBounds, List.getElem?_set, List.length_cons, Array.length_toList]
    by_cases h1 : k < off + n
    · have a1 : k < off + (n + 1) := by omega
      have a2 : ¬ (off + n = k) := by omega
      simp [h1, a1, a2]
    · by_cases h2 : off + n = k
      · have a1 : k < off + (n + 1) := by omega
        have a3 : k < off + n + (r.length + 1) := by omega
        have a4 : k < cs.size := by omega
        have a5 : k - (off + n) = 0 := by omega
        simp only [a1, h1, a3, if_true, if_false, h2, a4, a5]
        simp
      · have a1 : ¬ k < off + (n + 1) := by omega
        by_cases h3 : k < off + (n + 1) + r.length
        · have a3 : k < off + n + (r.length + 1) := by omega
          simp only [a1, h1, h3, a3, if_true, if_false]
          rw [show k - (off + n) = (k - (off + (n + 1))) + 1 by omega]
          simp
        · have a3 : ¬ k < off + n + (r.length + 1) := by omega
          simp only [a1, h1, h2, h3, a3, if_false]

theorem fold_cells (v : Array Value) (off : Nat) (cs : Array Value) (h : off + v.size ≤ cs.size) :
    v.zipIdx.foldl (fun cs (c, j) => cs.setIfInBounds (off + j) c) cs = (put cs.toList off v.toList).toArray := by
  apply Array.ext'
  rw [← Array.foldl_toList, Array.toList_zipIdx]
  have := fold_put v.toList 0 off cs (by simp; omega)
  simpa using this

/-! ### a struct value -/
/-- 'cells, one by one' -/
def CellsRel (ρ : Nm) (S : Nat → Prop) (H : Heap) (w : World) (cs : List AV) (vs : Array Value) : Prop :=
  cs.length = vs.size ∧ ∀ (k : Nat) (x : AV), cs[k]? = some x → ∃ v, vs[k]? = some v ∧ Flat v ∧ RelA ρ S H w x v

theorem CellsRel.agg {cs : List AV} {vs : Array Value} (h : CellsRel ρ S H w cs vs) : RelA ρ S H w (.agg cs) (.agg vs) := by
  refine .agg cs vs (fun i => (vs[i]?).getD undef) h.1 (fun i x hi => ?_) (fun i x hi => ?_)
  · obtain ⟨v, hv, _⟩ := h.2 i x hi; rw [hv]; rfl
  · obtain ⟨v, hv, _, hr⟩ := h.2 i x hi; rw [hv]; exact hr

theorem fill_rel (place : Nat → Option (Nat × Nat)) : ∀ (ps : List (Nat × Nat × AV)) (vs : List (Nat × Value)) (z : List AV) (cells : Array Value),
    CellsRel ρ S H w z cells → ps.length = vs.length →
    (∀ (k : Nat) (p : Nat × Nat × AV), ps[k]? = some p → ∃ i v, vs[k]? = some (i, v) ∧ place i = some (p.1, p.2.1) ∧ RelA ρ S H w p.2.2 v) →
    ∀ r, fillCells z ps = some r → ∃ out, Instr.fill place cells vs = some out ∧ CellsRel ρ S H w r out
  | [], vs, z, cells, hz, hl, _, r, h => by
    cases vs with
    | nil => simp only [fillCells] at h; cases h; exact ⟨cells, rfl, hz⟩
    | cons _ _ => simp at hl
  | (off, sz, x) :: ps, vs, z, cells, hz, hl, hp, r, h => by
    cases vs with
    | nil => simp at hl
    | cons q vs =>
      obtain ⟨i, v, hq, hpl, hr⟩ := hp 0 (off, sz, x) rfl
      simp at hq; subst hq
      simp only [fillCells] at h
      split at h
      · rename_i hc
        obtain ⟨c1, c2, c3⟩ := hc
        obtain ⟨s1, s2⟩ := cells_rel c3 hr
        have hnew : CellsRel ρ S H w (put z off (cellsOf x)) (put cells.toList off v.cells.toList).toArray := by
          have hzl := hz.1
          refine ⟨by rw [put_length _ _ _ (by omega)]; simp [put_length _ _ _ (show off + v.cells.toList.length ≤ cells.toList.length by simp; omega)]; exact hzl, ?_⟩
          have := put_cells (R := fun a b => Flat b ∧ RelA ρ S H w a b) (c := z) (vs := cells.toList) (j := off) (a := cellsOf x) (b := v.cells.toList) (by simp; omega) (by simp; omega) (by omega)
            (fun k x hk => by obtain ⟨v, hv, hh⟩ := hz.2 k x hk; exact ⟨v, by simpa using hv, hh⟩)
            (fun k x hk => by obtain ⟨v, hv, hh⟩ := s2 k x hk; exact ⟨v, by simpa using hv, hh⟩)
          intro k q hk
          obtain ⟨y, hy, hh⟩ := this k q hk
          exact ⟨y, by simpa using hy, hh⟩
        obtain ⟨out, ho, hro⟩ := fill_rel place ps vs _ _ hnew (by simpa using hl) (fun k p hk => by
          obtain ⟨i', v', h1, h2, h3⟩ := hp (k + 1) p (by simpa using hk)
          exact ⟨i', v', by simpa using h1, h2, h3⟩) r h
        refine ⟨out, ?_, hro⟩
        have hzl := hz.1
        simp only at hpl
        simp only [Instr.fill, hpl]
        rw [if_neg (by simp; omega), fold_cells _ _ _ (by omega)]
        exact ho
      · cases h

theorem zeroDs_rel {t : TypeId} {ds : List D} (h : zeroDs P t = some ds) : ∃ i z, P.info? t = some i ∧ i.zero = some z ∧ ds.length = z.cells.size ∧
    ∀ (k : Nat) (x : D), ds[k]? = some x → ∃ v, z.cells[k]? = some v ∧ cvD v = some x := by
  unfold zeroDs at h
  obtain ⟨z, hz, h⟩ := Option.bind_eq_some_iff.1 h
  obtain ⟨i, hi, hz⟩ := Option.bind_eq_some_iff.1 hz
  obtain ⟨h1, h2⟩ := cvDs_get h
  refine ⟨i, z, hi, hz, by simpa using h1, fun k x hk => ?_⟩
  have hkl : k < z.cells.toList.length := by rw [← h1]; exact (List.getElem?_eq_some_iff.1 hk).1
  obtain ⟨x', hx', hc⟩ := h2 k _ (List.getElem?_eq_getElem hkl)
  rw [hk] at hx'; cases hx'
  exact ⟨_, by simp at hkl; simp [hkl], hc⟩

theorem run_zero {t : TypeId} {i : TypeInfo} {z : Value} (hi : P.info? t = some i) (hz : i.zero = some z) (w : World) : (zeroValue t).run P w = .ok z w := by
  unfold zeroValue
  simp [run_typeInfo w hi, hz]

theorem run_mapM (g : Field → Sem (Nat × Nat)) (f : Field → Nat × Nat) : ∀ (fs : List Field), (∀ x ∈ fs, ∀ w : World, (g x).run P w = .ok (f x) w) → ∀ w : World, (fs.mapM g).run P w = .ok (fs.map f) w
  | [], _, w => by simp
  | x :: r, h, w => by
    have h1 := h x (by simp) w
    have h2 := run_mapM g f r (fun y hy => h y (by simp [hy])) w
    simp [List.mapM_cons, h1, h2]

theorem build_rel {t : TypeId} {fs : Array Field} (ht : P.underlying t = some (.struct fs)) {zs : List D} (hz : zeroDs P t = some zs) (hfs : (fs.toList.all fun f => szOf P f.type != 0) = true)
    {ps : List (Nat × Nat × AV)} {parts : Array (Nat × Value)} (hl : ps.length = parts.size)
    (hp : ∀ (k : Nat) (p : Nat × Nat × AV), ps[k]? = some p → ∃ i v f, parts[k]? = some (i, v) ∧ fs[i]? = some f ∧ p.1 = f.offset ∧ p.2.1 = szOf P f.type ∧ RelA ρ S H w p.2.2 v)
    {r : List AV} (h : fillCells (zs.map .d) ps = some r) : ∃ y, (Instr.build t parts).run P w = .ok y w ∧ RelA ρ S H w (.agg r) y := by
  obtain ⟨i, z, hi, hzz, hlen, hcell⟩ := zeroDs_rel hz
  have hz0 : CellsRel ρ S H w (zs.map .d) z.cells := by
    refine ⟨by simpa using hlen, fun k x hk => ?_⟩
    obtain ⟨y, hy, rfl⟩ := relA_map_d hk
    obtain ⟨v, hv, hc⟩ := hcell k y hy
    exact ⟨v, hv, (cvD_rel hc S w).flat, .d _ _ (cvD_rel hc S w)⟩
  let place : Nat → Option (Nat × Nat) := ((fs.toList.map fun f => (f.offset, szOf P f.type)).toArray[·]?)
  obtain ⟨out, ho, hr⟩ := fill_rel place ps parts.toList (zs.map .d) z.cells hz0 (by simpa using hl) (fun k p hk => by
    obtain ⟨i, v, f, h1, h2, h3, h4, h5⟩ := hp k p hk
    refine ⟨i, v, by simpa using h1, ?_, h5⟩
    have : fs.toList[i]? = some f := by simpa using h2
    simp [place, h2, h3, h4]) r h
  refine ⟨.agg out, ?_, hr.agg⟩
  unfold Instr.build
  simp only [Sem.run_bind, run_zero hi hzz, Result.andThen_ok, run_underlying ht]
  rw [Array.mapM_eq_mapM_toList]
  simp only [Sem.run_map]
  rw [run_mapM (fun f => do pure (f.offset, ← Go.sizeOf f.type)) (fun f => (f.offset, szOf P f.type)) fs.toList (fun x hx w => by
    have := List.all_eq_true.1 hfs x hx
    simp only [bne_iff_ne, ne_eq] at this
    simp only [Sem.run_bind, run_size this, Result.andThen_ok, Sem.run_pure]) w]
  simp only [Result.andThen_ok]
  have : Instr.fill (fun x => (fs.toList.map fun f => (f.offset, szOf P f.type)).toArray[x]?) z.cells parts.toList = some out := ho
  rw [this]
  rfl

/-! ### what is made -/
theorem hget_mem {H : Heap} {l : Nat} {o : AObj} (h : hget H l = some o) : (l, o) ∈ H := by
  induction H with
  | nil => simp [hget] at h
  | cons p r ih =>
    obtain ⟨m, q⟩ := p
    simp only [hget] at h
    split at h
    · cases h; subst_vars; simp
    · simp [ih h]

theorem noRef_spec {l : Nat} {E : List AV} {H : Heap} (h : noRef l E H = true) : l ∉ refsL E ∧ ∀ m q, hget H m = some q → m ≠ l → l ∉ refsO q := by
  unfold noRef at h
  simp only [Bool.and_eq_true, Bool.not_eq_true', List.all_eq_true] at h
  obtain ⟨h1, h2⟩ := h
  refine ⟨by simpa using h1, fun m q hq hm => ?_⟩
  have := h2 (m, q) (hget_mem hq)
  simp only [Bool.or_eq_true, beq_iff_eq, Bool.not_eq_true'] at this
  rcases this with e | e
  · exact absurd e hm
  · simpa using e

theorem step_push {N : Nat → Prop} (hi : Inv ρ S H w) (nm : Nat) (o : AObj) (q : Obj) (w' : World) (hw : w'.heap = w.heap.push q) (hN : N nm)
    (hno : ∀ m p, hget H m = some p → m ≠ nm → nm ∉ refsO p)
    (hobj : (∀ v x, nm ∉ refs v → RelA ρ S H w v x → RelA (upd ρ nm w.heap.size) S (hset H nm o) w' v x) → (∀ v x, RelD S w v x → RelD S w' v x) →
      w'.heap[w.heap.size]? = some q → ObjAt (upd ρ nm w.heap.size) S (hset H nm o) w' (fun _ => False) w.heap.size o)
    (hout : Outer w w' := by exact ⟨rfl, rfl, rfl, by first | exact Nat.le_refl _ | exact Nat.le_add_right _ _⟩) :
    Step N ρ S H w (upd ρ nm w.heap.size) S (hset H nm o) w' := by
  have hq : w'.heap[w.heap.size]? = some q := by rw [hw]; simp
  have hoth : ∀ c, c ≠ w.heap.size → w'.heap[c]? = w.heap[c]? := by
    intro c hc
    rw [hw, Array.getElem?_push, if_neg hc]
  refine step_write hi nm o w.heap.size w' (.inl rfl) hoth (fun b cs T fr hb => ?_) (by rw [hw]; simp) (.inl hN) (.inr hno) (fun h1 h2 => hobj (fun v x hv => h1 v x fun k hk => .inl fun e => hv (e ▸ hk)) h2 hq) hout
  have hlt := lt_of_get hb
  exact ⟨cs, fr, by rw [hoth b (by omega)]; exact hb, rfl⟩

/-- a variable in memory -/
theorem box_rel {N : Nat → Prop} {sz : Nat} (hi : Inv ρ S H w) {nm : Nat} (hN : N nm) (hno : ∀ m p, hget H m = some p → m ≠ nm → nm ∉ refsO p) {x : AV} {y : Value} (hx : RelA ρ S H w x y)
    (hr : nm ∉ refs x) (hs : solid x = true) (t : TypeId) :
    ∃ w', (newVar t y).run P w = .ok ⟨w.heap.size, 0, none⟩ w' ∧ ∃ ρ', Step N ρ S H w ρ' S (hset H nm (.var (cellsOf x))) w' ∧
      RelA ρ' S (hset H nm (.var (cellsOf x))) w' (.pv nm 0) (.pointer (some ⟨w.heap.size, 0, none⟩)) := by
  refine ⟨{ w with heap := w.heap.push (.cells y.cells t) }, by simp [newVar, newRow], upd ρ nm w.heap.size, ?_, ?_⟩
  · refine step_push hi nm _ (.cells y.cells t) _ rfl hN hno fun hrel _ hq => ?_
    obtain ⟨h1, h2⟩ := cells_rel hs hx
    refine ⟨y.cells, t, hq, h1, fun _ _ => False, ⟨fun _ _ _ h => h.elim, fun _ _ _ _ _ h => h.elim⟩, fun j c hj => ?_⟩
    obtain ⟨v, hv, hf, hrv⟩ := h2 j c hj
    refine ⟨v, hv, hf, .solid (hrel c v (fun hm => hr ?_) hrv) (by rw [solid, List.all_eq_true] at hs; exact hs c (List.mem_of_getElem? hj))⟩
    -- a cell's names are the value's
    cases x with
    | agg cs => exact refsL_mem hj nm hm
    | _ =>
      simp only [cellsOf] at hj
      cases j with
      | zero => simp at hj; subst hj; exact hm
      | succ j => simp at hj
  · exact .pv _ _ _ trivial fun _ => by rw [upd_self]

end
end Bz

/- Rows of elements: built, made, appended to, copied, cleared, read as text. -/
namespace Bz
open Go

section
variable {P : Program} {w : World} {ρ : Nm} {S : Nat → Prop} {H : Heap}

theorem divmod {sz k q : Nat} (h0 : 0 < sz) (h : k < q * sz) : k / sz < q ∧ k % sz < sz ∧ k = k / sz * sz + k % sz := by
  refine ⟨(Nat.div_lt_iff_lt_mul h0).2 h, Nat.mod_lt _ h0, ?_⟩
  rw [Nat.mul_comm]; exact (Nat.div_add_mod k sz).symm

theorem mul_add_lt {i n sz j : Nat} (hi : i < n) (hj : j < sz) : i * sz + j < n * sz := by
  have : (i + 1) * sz ≤ n * sz := Nat.mul_le_mul_right _ hi
  rw [Nat.add_mul, Nat.one_mul] at this
  omega

theorem mul_le {i n sz : Nat} (hi : i < n) : i * sz + sz ≤ n * sz := by
  have : (i + 1) * sz ≤ n * sz := Nat.mul_le_mul_right _ hi
  rwa [Nat.add_mul, Nat.one_mul] at this

/-- one element written -/
theorem rowAt_set {sz : Nat} {es : List (List D)} {vs : Array Value} (h : RowAt S w sz es vs) {i : Nat} (hi : i < es.length) {ds : List D} (hd : ds.length = sz) {b : List Value} (hb : b.length = sz)
    (hr : ∀ (k : Nat) (x : D), ds[k]? = some x → ∃ v, b[k]? = some v ∧ RelD S w x v) : RowAt S w sz (es.set i ds) (put vs.toList (i * sz) b).toArray := by
  have hle : i * sz + sz ≤ vs.size := Nat.le_trans (mul_le hi) h.1
  have hpl : (put vs.toList (i * sz) b).length = vs.toList.length := put_length _ _ _ (by simp; omega)
  refine ⟨by simp only [List.length_set, List.size_toArray, hpl]; simpa using h.1, fun i' c hc => ?_⟩
  rw [List.getElem?_set] at hc
  by_cases e : i = i'
  · subst e
    rw [if_pos rfl, if_pos hi] at hc
    cases hc
    refine ⟨hd, fun k x hk => ?_⟩
    have hkz : k < sz := by rw [← hd]; exact (List.getElem?_eq_some_iff.1 hk).1
    obtain ⟨v, hv, hrv⟩ := hr k x hk
    refine ⟨v, ?_, hrv⟩
    have := put_get vs.toList (i * sz) b (by simp; omega) (i * sz + k)
    rw [if_neg (by omega), if_pos (by omega), show i * sz + k - i * sz = k by omega] at this
    simpa [this] using hv
  · rw [if_neg e] at hc
    refine ⟨(h.2 i' c hc).1, fun k x hk => ?_⟩
    obtain ⟨v, hv, hrv⟩ := (h.2 i' c hc).2 k x hk
    refine ⟨v, ?_, hrv⟩
    have hkz : k < sz := by rw [← (h.2 i' c hc).1]; exact (List.getElem?_eq_some_iff.1 hk).1
    have := put_get vs.toList (i * sz) b (by simp; omega) (i' * sz + k)
    rcases Nat.lt_or_gt_of_ne e with h1 | h1
    · have := mul_le (sz := sz) h1
      have g := put_get vs.toList (i * sz) b (by simp; omega) (i' * sz + k)
      rw [if_neg (by omega), if_neg (by omega)] at g
      simpa [g] using hv
    · have := mul_le (sz := sz) h1
      have g := put_get vs.toList (i * sz) b (by simp; omega) (i' * sz + k)
      rw [if_pos (by omega)] at g
      simpa [g] using hv

theorem fillRow_rel (hi : Inv ρ S H w) {S' : Nat → Prop} (hS : ∀ b, S b → S' b) {sz : Nat} : ∀ (ps : List (Nat × AV)) (vs : List (Nat × Value)) (es : List (List D)) (cells : Array Value),
    RowAt S' w sz es cells → ps.length = vs.length →
    (∀ (k : Nat) (p : Nat × AV), ps[k]? = some p → ∃ v, vs[k]? = some (p.1, v) ∧ RelA ρ S H w p.2 v ∧ ∀ l ∈ (cellsOf p.2).flatMap arrsOf, (∃ sz m, m ≠ 0 ∧ CntD H l sz m) → S' (ρ l)) →
    ∀ r, fillRow H sz es ps = some r → ∃ out, Instr.fill (fun i => some (i * sz, sz)) cells vs = some out ∧ RowAt S' w sz r out ∧ out.size = cells.size ∧ r.length = es.length
  | [], vs, es, cells, hz, hl, _, r, h => by
    cases vs with
    | nil => simp only [fillRow] at h; cases h; exact ⟨cells, rfl, hz, rfl, rfl⟩
    | cons _ _ => simp at hl
  | (i, x) :: ps, vs, es, cells, hz, hl, hp, r, h => by
    cases vs with
    | nil => simp at hl
    | cons q vs =>
      obtain ⟨v, hq, hr, hfr⟩ := hp 0 (i, x) rfl
      simp at hq; subst hq
      simp only [fillRow] at h
      split at h
      · rename_i ds hds
        split at h
        · rename_i hc
          obtain ⟨d1, d2, d3⟩ := cellsD_rel hi hds hr hS hfr
          have hle : i * sz + sz ≤ cells.size := Nat.le_trans (mul_le hc.2) hz.1
          have hpl : (put cells.toList (i * sz) v.cells.toList).length = cells.toList.length := put_length _ _ _ (by simp; omega)
          have hnew := rowAt_set hz hc.2 hc.1 (b := v.cells.toList) (by simp; omega) fun k x hk => by
            obtain ⟨z, hz, hr⟩ := d3 k x hk; exact ⟨z, by simpa using hz, hr⟩
          obtain ⟨out, ho, h1, h2, h3⟩ := fillRow_rel hi hS ps vs _ _ hnew (by simpa using hl) (fun k p hk => by
            obtain ⟨v', h1, h2, h3⟩ := hp (k + 1) p (by simpa using hk)
            exact ⟨v', by simpa using h1, h2, h3⟩) r h
          refine ⟨out, ?_, h1, by rw [h2]; simpa using hpl, by rw [h3]; simp⟩
          simp only [Instr.fill]
          rw [if_neg (by simp; omega), fold_cells _ _ _ (by omega)]
          exact ho
        · cases h
      · cases h

theorem zeros_row {t : TypeId} {z : List D} (hz : zeroDs P t = some z) {sz : Nat} (h0 : 0 < sz) (hl : z.length = sz) (S : Nat → Prop) (w : World) (n : Nat) {zv : Value} {i : TypeInfo} (hi : P.info? t = some i) (hzv : i.zero = some zv)
    (f : Nat → Value) (hf : ∀ k, k < n * sz → f k = zv.cells[k % zv.cells.size]!) : RowAt S w sz (List.replicate n (z.map norm)) ((Array.range (n * sz)).map f) := by
  obtain ⟨i', zv', hi', hzv', hlen, hcell⟩ := zeroDs_rel hz
  rw [hi] at hi'; cases hi'; rw [hzv] at hzv'; cases hzv'
  refine ⟨by simp, fun i c hc => ?_⟩
  rw [List.getElem?_replicate] at hc
  split at hc
  · rename_i hin
    cases hc
    refine ⟨by simpa using hl, fun j x hj => ?_⟩
    rw [List.getElem?_map] at hj
    obtain ⟨x0, hj0, rfl⟩ := Option.map_eq_some_iff.1 hj
    obtain ⟨v, hv, hcv⟩ := hcell j x0 hj0
    have hjs : j < sz := by rw [← hl]; exact (List.getElem?_eq_some_iff.1 hj0).1
    refine ⟨v, ?_, (cvD_rel hcv S w).norm⟩
    have hlt := mul_add_lt hin hjs
    have : (i * sz + j) % zv.cells.size = j := by rw [← hlen, hl, Nat.add_comm, Nat.add_mul_mod_self_right]; exact Nat.mod_eq_of_lt hjs
    have hjz : j < zv.cells.size := by omega
    simp only [Array.getElem?_map, Array.getElem?_range, hlt, if_true, Option.map_some, hf _ hlt, this]
    rw [Array.getElem?_eq_getElem hjz] at hv
    simp [hjz]; simpa using hv
  · cases hc

theorem freshRow_rel {N : Nat → Prop} (hi : Inv ρ S H w) {nm : Nat} (hN : N nm) (hno : ∀ m p, hget H m = some p → m ≠ nm → nm ∉ refsO p) {sz : Nat} (h0 : 0 < sz) {es : List (List D)} {cells : Array Value}
    (hr : RowAt S w sz es cells) (t : TypeId) (w' : World) (hw : w'.heap = w.heap.push (.cells cells t)) (hout : Outer w w' := by exact ⟨rfl, rfl, rfl, by first | exact Nat.le_refl _ | exact Nat.le_add_right _ _⟩) :
    Step N ρ S H w (upd ρ nm w.heap.size) S (hset H nm (.arr sz es)) w' :=
  step_push hi nm _ _ w' hw hN hno (fun _ hrel hq => ⟨h0, fun _ => ⟨cells, t, hq, ⟨hr.1, fun i c hc => ⟨(hr.2 i c hc).1, fun j x hj => by
    obtain ⟨v, hv, h⟩ := (hr.2 i c hc).2 j x hj; exact ⟨v, hv, hrel _ _ h⟩⟩⟩⟩⟩) hout

/-- the slice of a row that was made -/
theorem os_newO {nm sz n cap : Nat} {o : AObj} {ρ : Nm} {S : Nat → Prop} {H : Heap} {w' : World} {b : Nat} {cs : Array Value} {T : TypeId} (hb : ρ nm = b) (hcell : w'.heap[b]? = some (.cells cs T (0, 0)))
    (hrow : rowsOf o = some (sz, n)) (hc : n ≤ cap) (hn0 : n = 0 → cap = 0) (hs : cap * sz ≤ cs.size) (hg : hget H nm = some o) : RelA ρ S H w' (.os nm n 0 n) (.slice (some ⟨b, 0, none⟩) n cap) := by
  refine .os _ _ _ _ _ trivial fun sz1 m1 hm => ?_
  have hm := cnt_of hg hm
  rw [hrow] at hm
  simp only [Option.some.injEq, Prod.mk.injEq] at hm
  obtain ⟨rfl, rfl⟩ := hm
  refine ⟨by omega, fun _ => ?_⟩
  by_cases h0 : n = 0
  · exact .inl ⟨h0, h0, _, by rw [h0, hn0 h0]⟩
  · exact .inr ⟨⟨h0, fun _ _ _ e6 => by cases e6; omega⟩, _, cap, cs, T, _, rfl, hc, .inr (by rw [hb]; simp), by rw [hb]; exact hcell, .inr (by simpa using hs)⟩

theorem os_new {nm sz n cap : Nat} {es : List (List D)} {ρ : Nm} {S : Nat → Prop} {H : Heap} {w' : World} {b : Nat} {cs : Array Value} {T : TypeId} (hb : ρ nm = b) (hcell : w'.heap[b]? = some (.cells cs T (0, 0)))
    (hn : es.length = n) (hc : n ≤ cap) (hn0 : n = 0 → cap = 0) (hs : cap * sz ≤ cs.size) (hg : hget H nm = some (.arr sz es)) : RelA ρ S H w' (.os nm n 0 n) (.slice (some ⟨b, 0, none⟩) n cap) :=
  os_newO hb hcell (by simp [rowsOf, hn]) hc hn0 hs hg

theorem applyU_fz : ∀ (u : Upd) (H : Heap), (∀ p ∈ u, ∃ sz es, p.2 = AObj.fz sz es) → ∀ m p, hget (applyU H u) m = some p → hget H m = some p ∨ ∃ sz es, p = .fz sz es
  | [], H, _, m, p, h => .inl h
  | (l, o) :: r, H, hu, m, p, h => by
    rcases applyU_fz r (hset H l o) (fun q hq => hu q (by simp [hq])) m p h with h | h
    · rw [hget_hset] at h
      split at h
      · cases h
        exact .inr (hu (l, o) (by simp))
      · exact .inl h
    · exact .inr h

theorem frz_get {H : Heap} {ls : List Nat} {m : Nat} {p : AObj} (h : hget (applyU H (frz H ls)) m = some p) : hget H m = some p ∨ ∃ sz es, p = .fz sz es :=
  applyU_fz _ H (fun q hq => by obtain ⟨_, sz, es, e, _⟩ := frz_ok H ls q hq; exact ⟨sz, es, e⟩) m p h

theorem frz_no {H : Heap} {ls : List Nat} {nm : Nat} (hno : ∀ m p, hget H m = some p → m ≠ nm → nm ∉ refsO p) : ∀ m p, hget (applyU H (frz H ls)) m = some p → m ≠ nm → nm ∉ refsO p := by
  intro m p hm hne
  rcases frz_get hm with h | ⟨sz, es, rfl⟩
  · exact hno m p h hne
  · simp [refsO]

theorem applyU_append (H : Heap) (u : Upd) (l : Nat) (o : AObj) : applyU H (u ++ [(l, o)]) = hset (applyU H u) l o := by
  simp [applyU, List.foldl_append]

theorem buildSl_rel {N : Nat → Prop} {t e : TypeId} (ht : P.underlying t = some (.slice e)) (he : szOf P e ≠ 0) {z : List D} (hz : zeroDs P e = some z) (hzl : z.length = szOf P e) {len : Nat} (hlim : len * szOf P e ≤ 2 ^ 24)
    (hi : Inv ρ S H w) {nm : Nat} (hN : N nm) (hno : ∀ m p, hget H m = some p → m ≠ nm → nm ∉ refsO p) {ps : List (Nat × AV)} {parts : Array (Nat × Value)} (hl : ps.length = parts.size)
    (hp : ∀ (k : Nat) (p : Nat × AV), ps[k]? = some p → ∃ v, parts[k]? = some (p.1, v) ∧ RelA ρ S H w p.2 v)
    {es : List (List D)} (h : fillRow H (szOf P e) (List.replicate len (z.map norm)) ps = some es) :
    ∃ w' y, (Instr.buildSlice t len parts).run P w = .ok y w' ∧ ∃ ρ' S', Step N ρ S H w ρ' S' (applyU H (frz H (ps.flatMap fun p => (cellsOf p.2).flatMap arrsOf) ++ [(nm, .arr (szOf P e) es)])) w' ∧
      RelA ρ' S' (applyU H (frz H (ps.flatMap fun p => (cellsOf p.2).flatMap arrsOf) ++ [(nm, .arr (szOf P e) es)])) w' (.os nm len 0 len) y := by
  have h0 : 0 < szOf P e := Nat.pos_of_ne_zero he
  obtain ⟨i, zv, hinf, hzv, hzlen, _⟩ := zeroDs_rel hz
  obtain ⟨S1, st1, hS1, hk1, hk2⟩ := step_frzs (N := N) hi (ps.flatMap fun p => (cellsOf p.2).flatMap arrsOf)
  -- the cells at first
  let zc : Array Value := if len * szOf P e = 0 then #[] else zv.cells
  have hrow0 : RowAt S1 w (szOf P e) (List.replicate len (z.map norm)) ((Array.range (len * szOf P e)).map (fun k => zc[k % zc.size]!)) := by
    refine zeros_row hz h0 hzl S1 w len hinf hzv _ fun k hk => ?_
    have : ¬ len * szOf P e = 0 := by omega
    simp [zc, this]
  obtain ⟨out, ho, hrow, hosz, hesl⟩ := fillRow_rel hi st1.sub ps parts.toList _ _ hrow0 (by simpa using hl) (fun k p hk => by
    obtain ⟨v, h1, h2⟩ := hp k p hk
    exact ⟨v, by simpa using h1, h2, fun l hl' hc => hS1 l (List.mem_flatMap.2 ⟨p, List.mem_of_getElem? hk, hl'⟩) hc⟩) es h
  rw [applyU_append]
  refine ⟨{ w with heap := w.heap.push (.cells out e) }, .slice (some ⟨w.heap.size, 0, none⟩) len len, ?_, upd ρ nm w.heap.size, S1, (st1.trans (freshRow_rel st1.inv hN (frz_no hno) h0 hrow e _ rfl)).weaken (fun l h => h.elim id id), ?_⟩
  · unfold Instr.buildSlice
    simp only [Sem.run_bind, run_underlying ht, Result.andThen_ok, run_size he]
    rw [if_neg (by omega)]
    have fin : ∀ q : Array Value, q = zc → (match Instr.fill (fun i => some (i * szOf P e, szOf P e)) (Array.map (fun x => q[x % q.size]!) (Array.range (len * szOf P e))) parts.toList with
          | some cells => do
            let a ← newRow e cells
            pure (Value.slice (some a) len len)
          | _ => stuck "buildSlice: a part of the wrong size" : Sem Value).run P w = .ok (.slice (some ⟨w.heap.size, 0, none⟩) len len) { w with heap := w.heap.push (.cells out e) } := by
      intro q hq
      subst hq
      rw [ho]
      simp [newRow]
    by_cases hl0 : len * szOf P e = 0
    · rw [if_pos hl0]
      simp only [Sem.run_bind, Sem.run_pure, Result.andThen_ok]
      exact fin #[] (by simp [zc, hl0])
    · rw [if_neg hl0]
      simp only [Sem.run_bind, run_zero hinf hzv, Sem.run_pure, Result.andThen_ok]
      exact fin zv.cells (by simp [zc, hl0])
  · have hes : es.length = len := by rw [hesl]; simp
    refine os_new (cs := out) (T := e) (by rw [upd_self]) (by simp) hes (Nat.le_refl _) id ?_ (hget_set_self ..)
    rw [hosz]; simp

end
end Bz

/- Rows that are appended to, copied into, cleared, read as text; make. -/
namespace Bz
open Go

section
variable {P : Program} {w : World} {ρ : Nm} {S : Nat → Prop} {H : Heap}

theorem mkmap_rel {N : Nat → Prop} (hi : Inv ρ S H w) {nm : Nat} (hN : N nm) (hno : ∀ m p, hget H m = some p → m ≠ nm → nm ∉ refsO p) (t : TypeId) (ag : Bool) (ks : List SK) :
    ∃ w' y, (Instr.makeMap t none).run P w = .ok y w' ∧ ∃ ρ', Step N ρ S H w ρ' S (hset H nm (.mp ag ks [])) w' ∧ RelA ρ' S (hset H nm (.mp ag ks [])) w' (.map nm) y := by
  refine ⟨{ w with heap := w.heap.push (.map #[] 0) }, .map (some w.heap.size), by simp [Instr.makeMap], upd ρ nm w.heap.size, ?_, .map _ _ trivial fun _ => by rw [upd_self]⟩
  exact step_push hi nm _ (.map #[] 0) _ rfl hN hno fun _ _ hq => ⟨#[], 0, hq, ⟨rfl, by simp [Born]⟩, by simp⟩

theorem mksl_rel {N : Nat → Prop} {t e : TypeId} (ht : P.underlying t = some (.slice e)) (he : szOf P e ≠ 0) {z : List D} (hz : zeroDs P e = some z) (hzl : z.length = szOf P e) (hby : P.bytesOf e ≤ 256)
    (hi : Inv ρ S H w) {nm : Nat} (hN : N nm) (hno : ∀ m p, hget H m = some p → m ≠ nm → nm ∉ refsO p) {l c : AV} {vl vc : Value} (hl : RelA ρ S H w l vl) (hc : RelA ρ S H w c vc) {v : AV} {u : Upd}
    (h : amksl nm (szOf P e) (z.map norm) l c = some (v, u)) :
    ∃ w' y, (Instr.makeSlice t vl vc).run P w = .ok y w' ∧ ∃ ρ', Step N ρ S H w ρ' S (applyU H u) w' ∧ RelA ρ' S (applyU H u) w' v y := by
  have h0 : 0 < szOf P e := Nat.pos_of_ne_zero he
  obtain ⟨i, zv, hinf, hzv, hzlen, _⟩ := zeroDs_rel hz
  unfold amksl at h
  split at h
  · rename_i a b
    split at h
    · rename_i hcond
      obtain ⟨rfl, hpos, hlim⟩ := hcond
      cases h
      have := relA_int hl; have := relA_int hc; subst_vars
      have hbytes : i.bytes ≤ 256 := by simpa [Program.bytesOf, hinf] using hby
      have hwrap : IntKind.i64.wrap a = a := by
        unfold LIM at hlim
        unfold IntKind.wrap
        have e1 : a % 2 ^ IntKind.i64.bits = a := by
          have : IntKind.i64.bits = 64 := rfl
          rw [this]; omega
        simp only [e1]
        have : IntKind.i64.bits = 64 := rfl
        have h2 : ¬ (a ≥ 2 ^ (IntKind.i64.bits - 1)) := by rw [this]; omega
        simp [h2]
      have hb1 : ¬ ((i.bytes : Int) * a > 2 ^ 48) := by
        have : (i.bytes : Int) * a ≤ 256 * a := Int.mul_le_mul_of_nonneg_right (by omega) hpos
        unfold LIM at hlim
        omega
      let zc : Array Value := if a.toNat * szOf P e = 0 then #[] else zv.cells
      have hrow : RowAt S w (szOf P e) (List.replicate a.toNat (z.map norm)) ((Array.range (a.toNat * szOf P e)).map (fun k => zc[k % zc.size]!)) := by
        refine zeros_row hz h0 hzl S w a.toNat hinf hzv _ fun k hk => ?_
        have : ¬ a.toNat * szOf P e = 0 := by omega
        simp [zc, this]
      refine ⟨{ w with heap := w.heap.push (.cells ((Array.range (a.toNat * szOf P e)).map (fun k => zc[k % zc.size]!)) e) }, .slice (some ⟨w.heap.size, 0, none⟩) a.toNat a.toNat, ?_, upd ρ nm w.heap.size, freshRow_rel hi hN hno h0 hrow e _ rfl, ?_⟩
      · unfold Instr.makeSlice
        simp only [Sem.run_bind, run_underlying ht, Result.andThen_ok, asInt, asIntOf, Sem.run_pure, run_typeInfo w hinf, hwrap]
        have hn : ¬ a < 0 := by omega
        simp only [hn, hb1, decide_false, Bool.or_self, Bool.false_eq_true, gt_iff_lt, Int.lt_irrefl, or_self, if_false, Sem.run_bind, run_askRoom, Result.andThen_ok, run_size he]
        by_cases hl0 : a.toNat * szOf P e = 0
        · rw [if_pos hl0]
          simp only [Sem.run_bind, Sem.run_pure, Result.andThen_ok, newRow, run_newObj]
          simp [zc, hl0]
        · rw [if_neg hl0]
          simp only [Sem.run_bind, run_zero hinf hzv, Sem.run_pure, Result.andThen_ok, newRow, run_newObj]
          simp [zc, hl0]
      · exact os_new (cs := (Array.range (a.toNat * szOf P e)).map (fun k => zc[k % zc.size]!)) (T := e) (by rw [upd_self]) (by simp) (by simp) (Nat.le_refl _) id (by simp) (hget_set_self ..)
    · cases h
  · cases h

/-! ### the elements of what is appended, copied or read -/
theorem RowAt.take {sz : Nat} {es : List (List D)} {vs : Array Value} (h : RowAt S w sz es vs) (q : Nat) : RowAt S w sz (es.take q) vs :=
  ⟨Nat.le_trans (Nat.mul_le_mul_right _ (by simp; omega)) h.1, fun i c hc => by
    rw [List.getElem?_take] at hc
    split at hc
    · exact h.2 i c hc
    · cases hc⟩

/-- cells read one by one, from an address on -/
theorem row_read {sz : Nat} (h0 : 0 < sz) {ys : List (List D)} {a : Addr} (hs : ∀ c ∈ ys, c.length = sz)
    (hc : ∀ (i j : Nat) (c : List D) (x : D), ys[i]? = some c → c[j]? = some x → ∃ v, w.cell? (a.add (i * sz + j)) = some v ∧ RelD S w x v) (q : Nat) (hq : q ≤ ys.length) :
    ∃ fl : Array Value, (loadCells a (q * sz)).run P w = .ok fl w ∧ fl.size = q * sz ∧ RowAt S w sz (ys.take q) fl ∧ ∀ v ∈ fl.toList, Flat v := by
  have cell : ∀ k, k < q * sz → ∃ (i j : Nat) (c : List D) (x : D), ys[i]? = some c ∧ c[j]? = some x ∧ i < q ∧ j < sz ∧ k = i * sz + j ∧ ∃ v, w.cell? (a.add k) = some v ∧ RelD S w x v := by
    intro k hk
    obtain ⟨d1, d2, d3⟩ := divmod h0 hk
    have hi : k / sz < ys.length := by omega
    have hcl := hs _ (List.getElem_mem hi)
    have hj : k % sz < (ys[k / sz]).length := by rw [hcl]; exact d2
    obtain ⟨v, hv, hr⟩ := hc _ _ _ _ (List.getElem?_eq_getElem hi) (List.getElem?_eq_getElem hj)
    exact ⟨_, _, _, _, List.getElem?_eq_getElem hi, List.getElem?_eq_getElem hj, d1, d2, d3, v, by rw [d3]; exact hv, hr⟩
  refine ⟨((List.range (q * sz)).map fun k => (w.cell? (a.add k)).getD undef).toArray, ?_, by simp, ⟨?_, fun i c hi => ?_⟩, fun v hv => ?_⟩
  · refine run_loadCells w a (q * sz) _ fun k hk => ?_
    obtain ⟨_, _, _, _, _, _, _, _, _, v, hv, _⟩ := cell k hk
    rw [hv]; rfl
  · simp only [List.length_take, List.size_toArray, List.length_map, List.length_range]
    exact Nat.mul_le_mul_right _ (by omega)
  · rw [List.getElem?_take] at hi
    split at hi
    · rename_i hiq
      have hcl := hs c (List.mem_of_getElem? hi)
      refine ⟨hcl, fun j x hj => ?_⟩
      have hjs : j < sz := by rw [← hcl]; exact (List.getElem?_eq_some_iff.1 hj).1
      obtain ⟨v, hv, hr⟩ := hc i j c x hi hj
      refine ⟨v, ?_, hr⟩
      have := mul_add_lt hiq hjs
      simp [this, hv]
    · cases hi
  · simp only [List.mem_map, List.mem_range] at hv
    obtain ⟨k, hk, rfl⟩ := hv
    obtain ⟨_, _, _, x, _, _, _, _, _, v, hv, hr⟩ := cell k hk
    rw [hv]; exact hr.flat

theorem read0 {sz q : Nat} (hq : q = 0) (ad : Addr) : ∃ fl : Array Value, (loadCells ad (q * sz)).run P w = .ok fl w ∧ fl.size = q * sz ∧ RowAt S w sz (([] : List (List D)).take q) fl ∧ ∀ v ∈ fl.toList, Flat v := by
  subst hq
  refine ⟨#[], ?_, by simp, ⟨by simp, by simp⟩, by simp⟩
  rw [Nat.zero_mul]; rfl

theorem rowLen_rel {sz : Nat} (h0 : 0 < sz) (hi : Inv ρ S H w) {y : AV} {v : Value} (hy : RelA ρ S H w y v) {ys : List (List D)} (h : rowLen H sz y = some ys) (hs : sized sz ys = true) :
    ∃ (a : Option Addr) (cap : Nat), v = .slice a ys.length cap ∧ ys.length ≤ cap ∧ (a = none → ys = []) ∧ ∀ q, q ≤ ys.length → ∀ ad, a = some ad →
      ∃ fl : Array Value, (loadCells ad (q * sz)).run P w = .ok fl w ∧ fl.size = q * sz ∧ RowAt S w sz (ys.take q) fl ∧ ∀ v ∈ fl.toList, Flat v := by
  have hsz : ∀ c ∈ ys, c.length = sz := by
    intro c hc
    simp only [sized, List.all_eq_true] at hs
    simpa using hs c hc
  have own : ∀ (l n off len : Nat) (es : List (List D)) (vs : Array Value) (T : TypeId) (fr : Nat × Nat), y = .os l n off len → Cnt H l sz n → w.heap[ρ l]? = some (.cells vs T fr) → RowAt S w sz es vs → es.length = n →
      off + len ≤ n → ys = (es.drop off).take len → ∃ (a : Option Addr) (cap : Nat), v = .slice a ys.length cap ∧ ys.length ≤ cap ∧ (a = none → ys = []) ∧ ∀ q, q ≤ ys.length → ∀ ad, a = some ad →
      ∃ fl : Array Value, (loadCells ad (q * sz)).run P w = .ok fl w ∧ fl.size = q * sz ∧ RowAt S w sz (ys.take q) fl ∧ ∀ v ∈ fl.toList, Flat v := by
    intro l n off len es vs T fr e hcnt hb hrow hn hle hys
    subst e
    cases hy with
    | os _ _ _ _ _ _ ho =>
      rcases (ho sz n hcnt).2 rfl with ⟨rfl, rfl, bb, rfl⟩ | ⟨_, a, cap, cs, T', fr', rfl, hc1, ha, _, _⟩
      · have : ys = [] := by rw [hys]; simp
        subst this
        exact ⟨bb, 0, rfl, Nat.le_refl _, fun _ => rfl, fun q hq ad _ => read0 (by simpa using hq) ad⟩
      have hyl : ys.length = len := by rw [hys]; simp; omega
      refine ⟨some a, cap, by rw [hyl], by omega, (fun e => by cases e), fun q hq ad had => ?_⟩
      cases had
      refine row_read h0 hsz (fun i j c x hi' hj => ?_) q hq
      have hin : i < ys.length := (List.getElem?_eq_some_iff.1 hi').1
      have : a = ⟨ρ l, off * sz, none⟩ := ha.resolve_left (by omega)
      subst this
      rw [hys, List.getElem?_take, if_pos (by omega), List.getElem?_drop] at hi'
      obtain ⟨v, hv, hr⟩ := row_cell hrow hb hi' hj
      refine ⟨v, ?_, hr⟩
      rw [addr_add, show off * sz + (i * sz + j) = (off + i) * sz + j by rw [Nat.add_mul]; omega]
      exact hv
  have own0 : ∀ (l n off len : Nat) (es : List (List D)), y = .os l n off len → Cnt H l sz n → n = 0 → ys = (es.drop off).take len → ∃ (a : Option Addr) (cap : Nat), v = .slice a ys.length cap ∧ ys.length ≤ cap ∧ (a = none → ys = []) ∧ ∀ q, q ≤ ys.length → ∀ ad, a = some ad →
      ∃ fl : Array Value, (loadCells ad (q * sz)).run P w = .ok fl w ∧ fl.size = q * sz ∧ RowAt S w sz (ys.take q) fl ∧ ∀ v ∈ fl.toList, Flat v := by
    intro l n off len es e hcnt hn0 hys
    subst e; subst hn0
    cases hy with
    | os _ _ _ _ _ _ ho =>
      rcases (ho sz 0 hcnt).2 rfl with ⟨_, rfl, bb, rfl⟩ | ⟨⟨hn, _⟩, _⟩
      · have : ys = [] := by rw [hys]; simp
        subst this
        exact ⟨bb, 0, rfl, Nat.le_refl _, fun _ => rfl, fun q hq ad _ => read0 (by simpa using hq) ad⟩
      · exact absurd rfl hn
  cases y with
  | d y =>
    cases y with
    | vs nl es =>
      simp only [rowLen] at h
      cases h
      cases hy with
      | d _ _ hd =>
        cases hd with
        | vnil t b => exact ⟨b, 0, rfl, Nat.le_refl _, fun _ => rfl, fun q hq ad _ => read0 (by simpa using hq) ad⟩
        | vs a sz' cap _ xs h1 h2 h3 h4 h5 =>
          refine ⟨some a, cap, rfl, h1, fun e => (by cases e), fun q hq ad had => ?_⟩
          cases had
          refine row_read h0 hsz (fun i j c x hi' hj => ?_) q hq
          have hcm := List.mem_of_getElem? hi'
          have e : sz' = sz := by rw [← h2 c hcm, hsz c hcm]
          subst e
          exact ⟨xs i j, h4 i j c hi' (by rw [← h2 c hcm]; exact (List.getElem?_eq_some_iff.1 hj).1), h5 i j c x hi' hj⟩
    | _ => simp [rowLen] at h
  | os l n off len =>
    simp only [rowLen] at h
    split at h
    · rename_i z es hes
      split at h
      · rename_i hc
        obtain ⟨c1, c2, rfl⟩ := hc
        cases h
        by_cases hne : es = []
        · exact own0 l n off len es rfl (cnt_arr hes c1) (by rw [← c1, hne]; rfl) rfl
        obtain ⟨vs, T, hb, hrow⟩ := (hi.obj l _ hes).2 hne
        exact own l n off len es vs T _ rfl (cnt_arr hes c1) hb hrow c1 c2 rfl
      · cases h
    · rename_i z es hes
      split at h
      · rename_i hc
        obtain ⟨c1, c2, rfl⟩ := hc
        cases h
        by_cases hne : es = []
        · exact own0 l n off len es rfl (cnt_fz hes c1) (by rw [← c1, hne]; rfl) rfl
        obtain ⟨_, vs, T, fr, hb, hrow⟩ := (hi.obj l _ hes).2 hne
        exact own l n off len es vs T fr rfl (cnt_fz hes c1) hb hrow c1 c2 rfl
      · cases h
    · cases h
  | _ => simp [rowLen] at h

theorem rowOf_rel {sz : Nat} (h0 : 0 < sz) (hi : Inv ρ S H w) {y : AV} {v : Value} (hy : RelA ρ S H w y v) {ys : List (List D)} (h : rowOf H sz y = some ys) (hs : sized sz ys = true) :
    (Builtin.lenOf v).run P w = .ok ys.length w ∧ ∀ q, q ≤ ys.length → ∃ fl : Array Value, (Builtin.firstCells sz q v).run P w = .ok fl w ∧ fl.size = q * sz ∧ RowAt S w sz (ys.take q) fl ∧ ∀ v ∈ fl.toList, Flat v := by
  have viaRow : rowLen H sz y = some ys → (Builtin.lenOf v).run P w = .ok ys.length w ∧ ∀ q, q ≤ ys.length → ∃ fl : Array Value, (Builtin.firstCells sz q v).run P w = .ok fl w ∧ fl.size = q * sz ∧ RowAt S w sz (ys.take q) fl ∧ ∀ v ∈ fl.toList, Flat v := by
    intro h
    obtain ⟨a, cap, rfl, hc, hn, hr⟩ := rowLen_rel (P := P) h0 hi hy h hs
    refine ⟨rfl, fun q hq => ?_⟩
    cases a with
    | none =>
      have := hn rfl; subst this
      have : q = 0 := by simpa using hq
      subst this
      exact ⟨#[], rfl, by simp, ⟨by simp, by simp⟩, by simp⟩
    | some ad => exact hr q hq ad rfl
  cases y with
  | d y =>
    cases y with
    | str s =>
      simp only [rowOf] at h
      split at h
      · cases h
        rename_i e; subst e
        have := relA_str hy; subst this
        refine ⟨by simp [Builtin.lenOf, dOfBytes, ByteArray.size], fun q hq => ?_⟩
        have hq' : q ≤ s.length := by simpa [dOfBytes] using hq
        refine ⟨((s.take q).map fun b => Value.int .u8 b.toNat).toArray, ?_, by simp; omega, ⟨by simp [dOfBytes], fun i c hc => ?_⟩, fun v hv => ?_⟩
        · simp only [Builtin.firstCells, Sem.run_pure]
          rw [take_drop_extract]
          simp
        · rw [List.getElem?_take] at hc
          split at hc
          · rename_i hiq
            simp only [dOfBytes, List.getElem?_map] at hc
            obtain ⟨b, hb, rfl⟩ := Option.map_eq_some_iff.1 hc
            refine ⟨rfl, fun j x hj => ?_⟩
            cases j with
            | zero =>
              simp at hj; subst hj
              refine ⟨.int .u8 b.toNat, ?_, .int _ _⟩
              simp [hb, hiq]
            | succ j => simp at hj
          · cases hc
        · simp only [List.mem_map] at hv
          obtain ⟨b, _, rfl⟩ := hv
          trivial
      · cases h
    | _ => exact viaRow h
  | _ => exact viaRow h

/-! ### text -/
theorem bytes_fold : ∀ (ns : List Int) (acc : List UInt8), ns.foldl (fun r n => r.push (UInt8.ofNat n.toNat)) (⟨acc.toArray⟩ : ByteArray) = ⟨(acc ++ ns.map fun n => UInt8.ofNat n.toNat).toArray⟩
  | [], acc => by simp
  | n :: r, acc => by
    simp only [List.foldl_cons]
    have : (⟨acc.toArray⟩ : ByteArray).push (UInt8.ofNat n.toNat) = ⟨(acc ++ [UInt8.ofNat n.toNat]).toArray⟩ := by
      apply ByteArray.ext; simp [ByteArray.push]
    rw [this, bytes_fold r]
    simp

theorem bytesOfD_get : ∀ {ys : List (List D)} {s : List UInt8}, bytesOfD ys = some s → ∃ ns : List Int, ys = ns.map (fun n => [D.int .u8 n]) ∧ s = ns.map fun n => UInt8.ofNat n.toNat
  | [], s, h => by simp [bytesOfD] at h; subst h; exact ⟨[], rfl, rfl⟩
  | c :: r, s, h => by
    simp only [bytesOfD] at h
    split at h
    · cases h
    · rename_i b hb
      split at h
      · cases h
      · rename_i bs hbs
        cases h
        obtain ⟨ns, h1, h2⟩ := bytesOfD_get hbs
        unfold byteOfD at hb
        split at hb
        · rename_i n
          cases hb
          exact ⟨n :: ns, by simp [h1], by simp [h2]⟩
        · cases hb

theorem toStr_rel {src dst e : TypeId} (hs : P.underlying src = some (.slice e)) (he : P.underlying e = some (.int .u8)) (hd : P.underlying dst = some .string) (hi : Inv ρ S H w) {x : AV} {v : Value} (hx : RelA ρ S H w x v)
    {ys : List (List D)} (h : rowLen H 1 x = some ys) {s : List UInt8} (hb : bytesOfD ys = some s) : (convert src dst v).run P w = .ok (.string ⟨s.toArray⟩) w := by
  obtain ⟨ns, rfl, rfl⟩ := bytesOfD_get hb
  obtain ⟨a, cap, rfl, hc, hn, hr⟩ := rowLen_rel (P := P) Nat.one_pos hi hx h (by simp [sized])
  rw [run_convert_bytes_string w src dst e _ _ _ hs he hd]
  cases a with
  | none =>
    have := hn rfl
    have : ns = [] := by simpa using this
    subst this
    rfl
  | some ad =>
    obtain ⟨fl, h1, h2, h3, _⟩ := hr _ (Nat.le_refl _) ad rfl
    rw [Nat.mul_one] at h1 h2
    have hfl : fl = (ns.map (Value.int .u8)).toArray := by
      apply Array.ext'
      apply List.ext_getElem?
      intro k
      by_cases hk : k < ns.length
      · have g := (h3.2 k [D.int .u8 ns[k]] (by simp [hk])).2 0 _ rfl
        obtain ⟨v, hv, hrv⟩ := g
        cases hrv
        rw [Nat.mul_one, Nat.add_zero] at hv
        simp [hv, hk]
      · simp only [List.length_map] at h2
        rw [List.getElem?_eq_none (by simp; omega), List.getElem?_eq_none (by simp; omega)]
    rw [run_bytesToString w ad _ cap ns (by rw [h1, hfl])]
    have := bytes_fold ns []
    simp only [List.nil_append] at this
    have e0 : (⟨([] : List UInt8).toArray⟩ : ByteArray) = ByteArray.empty := rfl
    rw [e0] at this
    rw [this]

end
end Bz
