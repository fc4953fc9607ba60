/- The evaluator: values, states and the run of the model's code over them, by which the later texts tell what a function of the program answers. No condition. -/
import Derived.WalkKit
import Derived.Orders
namespace Go.Proofs.Ytfagpbelmaipkaa.Ev
open Go

/-- A mark on a value: what bears it is not looked into by the simplifier. -/
inductive Tag {α : Type} (a : α) : Type where
  | t
/-- 'a', and with what it is, on. (The simplifier leaves what is behind alone: the mark.) -/
def andK {α β : Type} (a : Option α) (κ : α → Option β) (_ : Tag κ := .t) : Option β := a.bind κ

inductive AV where
  | undef | no | nilf | nils
  | int (k : IntKind) (n : Int)
  | bool (b : Bool)
  | str (s : List UInt8)
  | agg (xs : List AV)
  | lst (e : Nat) (fl : Bool) (xs : List AV)
  | fr (e : Nat) (fl : Bool) (xs : List AV)
  | own (b : Nat)
  | sub (b off len : Nat)
  | ptr (b i j : Nat)
  | asl (b i j n : Nat)
  | ref (x : AV)
  | bx (x : AV)
  | clo (f : Nat) (first caps : List AV)
  | tup (xs : List AV)
  deriving Inhabited

def AV.cells : AV → List AV
  | .agg xs => xs
  | x => [x]

/-- No part of the value names a block of the state. -/
def AV.closed : AV → Bool
  | .own _ | .sub .. | .ptr .. | .asl .. | .fr .. | .bx _ => false
  | .agg xs | .tup xs => closedL xs
  | .clo _ a b => closedL a && closedL b
  | _ => true
where
  closedL : List AV → Bool
  | [] => true
  | x :: l => x.closed && closedL l

/-- No part of the value is memory. -/
def AV.noMem : AV → Bool
  | .int .. | .bool _ | .str _ | .no | .nilf => true
  | .agg xs | .tup xs => noMemL xs
  | _ => false
where
  noMemL : List AV → Bool
  | [] => true
  | x :: l => x.noMem && noMemL l

/-- The value fills one cell. -/
def AV.okCell : AV → Bool
  | .int .. | .bool _ | .str _ | .nilf | .nils | .lst .. | .own _ | .sub .. | .ptr .. | .ref _ | .clo .. => true
  | _ => false
def AV.okL : List AV → Bool
  | [] => true
  | x :: l => x.okCell && okL l
/-- The value fills as many cells as it lists. -/
def AV.okVal : AV → Bool
  | .agg xs => AV.okL xs
  | x => x.okCell

/-- A block of the call's own: cells of an element; no element is memory; a box (one variable); the elements; it may be written. -/
structure Blk where
  e : Nat
  fl : Bool
  bx : Bool
  xs : List AV
  ok : Bool

inductive Kind where
  | v
  | o (e : Nat) (fl : Bool)

inductive Mode where
  | b | l | m
  deriving DecidableEq

structure St where
  vars : List (Nat × AV)
  loc : List (Nat × AV)
  hp : List (Nat × Blk)

/-- Of a function: the variables beside its parameters; of each loop's block what goes round; how each parameter is handed in. -/
structure Ann where
  vs : List Nat := []
  keep : List (Nat × List (Nat × Kind)) := []
  modes : List Mode := []
  deep : Option (St → List AV → Option (AV × St)) := none

def lookO : List (Nat × AV) → Nat → Option AV
  | [], _ => none
  | (k, x) :: l, t => bif k == t then some x else lookO l t

def look : List (Nat × AV) → Nat → AV
  | [], _ => .undef
  | (k, x) :: l, t => bif k == t then x else look l t

def orLook : Option AV → List (Nat × AV) → Nat → AV
  | some x, _, _ => x
  | none, l, t => look l t

def hlook : List (Nat × Blk) → Nat → Option Blk
  | [], _ => none
  | (k, x) :: l, t => bif k == t then some x else hlook l t

def setl {α : Type} : List (Nat × α) → Nat → α → List (Nat × α)
  | [], t, x => [(t, x)]
  | (k, y) :: l, t, x => bif k == t then (t, x) :: l else (k, y) :: setl l t x

def dell {α : Type} : List (Nat × α) → Nat → List (Nat × α)
  | [], _ => []
  | (k, y) :: l, t => bif k == t then dell l t else (k, y) :: dell l t

def has : List (Nat × AV) → Nat → Bool
  | [], _ => false
  | (k, _) :: l, t => bif k == t then true else has l t

def putB : Bool → List (Nat × AV) → List (Nat × AV) → List (Nat × Blk) → Nat → AV → St
  | true, vars, loc, hp, t, x => ⟨setl vars t x, loc, hp⟩
  | false, vars, loc, hp, t, x => ⟨vars, (t, x) :: loc, hp⟩

def St.get : St → Nat → AV
  | ⟨vars, loc, _⟩, t => orLook (lookO vars t) loc t
def St.put : St → Nat → AV → St
  | ⟨vars, loc, hp⟩, t, x => putB (has vars t) vars loc hp t x
def St.putO : St → Option Nat → AV → St
  | S, some t, x => S.put t x
  | S, none, _ => S
def St.withHp : St → List (Nat × Blk) → St
  | ⟨vars, loc, _⟩, hp => ⟨vars, loc, hp⟩

/-- A block's name struck out of a value. -/
def AV.scrub (b : Nat) : AV → AV
  | .own c => bif c == b then .undef else .own c
  | .sub c i n => bif c == b then .undef else .sub c i n
  | .ptr c i j => bif c == b then .undef else .ptr c i j
  | .asl c i j n => bif c == b then .undef else .asl c i j n
  | .agg xs => .agg (scrubL b xs)
  | .tup xs => .tup (scrubL b xs)
  | .clo f x y => .clo f (scrubL b x) (scrubL b y)
  | x => x
where
  scrubL (b : Nat) : List AV → List AV
  | [] => []
  | x :: l => x.scrub b :: scrubL b l

def scrubE (b : Nat) : List (Nat × AV) → List (Nat × AV)
  | [] => []
  | (k, x) :: l => (k, x.scrub b) :: scrubE b l

/-- A box's one value may name blocks; a row's elements never do. -/
def scrubH (b : Nat) : List (Nat × Blk) → List (Nat × Blk)
  | [] => []
  | (k, ⟨e, fl, true, xs, ok⟩) :: l => (k, ⟨e, fl, true, AV.scrub.scrubL b xs, ok⟩) :: scrubH b l
  | (k, ⟨e, fl, false, xs, ok⟩) :: l => (k, ⟨e, fl, false, xs, ok⟩) :: scrubH b l

/-- The block goes: no value names it any more. -/
def St.kill : St → Nat → St
  | ⟨vars, loc, hp⟩, b => ⟨scrubE b vars, scrubE b loc, scrubH b (dell hp b)⟩

def ofVal1 : Value → AV
  | .bool b => .bool b
  | .int k n => .int k n
  | .string s => .str s.data.toList
  | .nilFunc => .nilf
  | .slice none 0 0 => .nils
  | _ => .undef
def ofVal : Value → AV
  | .agg cs => .agg (cs.toList.map ofVal1)
  | v => ofVal1 v

def St.ev (S : St) : Operand → AV
  | .tmp t => S.get t
  | .const v => ofVal v
  | .global _ => .undef
  | .func f => .clo f [] []

/-! ### Types -/
inductive Ty where
  | int (k : IntKind) | bool | str | slice (e : TypeId) | arr (n : Nat) (e : TypeId) | strct (fs : List (Nat × TypeId)) | ptr (e : TypeId) | func | other

def tyD : Option TypeDesc → Ty
  | some (.int k) => .int k
  | some .bool => .bool
  | some .string => .str
  | some (.slice e) => .slice e
  | some (.array n e) => .arr n e
  | some (.struct fs) => .strct (fs.toList.map fun f => (f.offset, f.type))
  | some (.pointer e) => .ptr e
  | some (.func ..) => .func
  | _ => .other
def tyOf (P : Program) (t : TypeId) : Ty := tyD (P.underlying t)
def Ty.agg : Ty → Bool
  | .strct _ | .arr .. => true
  | _ => false
def szOf (P : Program) (t : TypeId) : Nat := ((P.info? t).map (·.size)).getD 0
def byOf (P : Program) (t : TypeId) : Nat := ((P.info? t).map (·.bytes)).getD 0
def zeOf (P : Program) (t : TypeId) : AV := ((P.info? t).bind (·.zero)).elim .undef ofVal
/-- The type's zero value is at hand, as many cells as the type has. -/
def zeroOk (P : Program) (t : TypeId) : Bool := match P.info? t with
  | some i => match i.zero with
    | some z => z.cells.size == i.size && z.cells.all Value.oneCell' && ((tyD (P.underlying t)).agg == (match z with | .agg _ => true | _ => false))
    | none => false
  | none => false
def known (P : Program) (t : TypeId) : Bool := (P.info? t).isSome && (P.underlying t).isSome
/-- Of each field of a struct: its first cell, how many it has, whether it is a struct or an array itself; of an element likewise. -/
def fldT (P : Program) (f : Nat) : Ty → Option (Nat × Nat × Bool)
  | .strct fs => (fs[f]?).bind fun (o, u) => bif known P u && decide (0 < szOf P u) then some (o, szOf P u, (tyOf P u).agg) else none
  | _ => none
def fldOf (P : Program) (t : TypeId) (f : Nat) : Option (Nat × Nat × Bool) := fldT P f (tyOf P t)

/-! ### Values of operators -/
def part (cs : List AV) (o s : Nat) : Bool → Option AV
  | true => if o + s ≤ cs.length then some (.agg ((cs.drop o).take s)) else none
  | false => cs[o]?

def eqV : AV → AV → Option Bool
  | .int _ a, .int _ b => some (a == b)
  | .bool a, .bool b => some (a == b)
  | .str a, .str b => some (a == b)
  | _, _ => none
def andB : Bool → Option Bool → Option Bool
  | true, x => x
  | false, _ => some false
def eqL : List AV → List AV → Option Bool
  | [], [] => some true
  | x :: l, y :: r => andK (eqV x y) fun b => andB b (eqL l r)
  | _, _ => none

/-- Bits of whole numbers. -/
def bvAnd (k : IntKind) (a b : Int) : Int := k.wrap ((BitVec.ofInt k.bits a) &&& (BitVec.ofInt k.bits b)).toNat
def bvOr (k : IntKind) (a b : Int) : Int := k.wrap ((BitVec.ofInt k.bits a) ||| (BitVec.ofInt k.bits b)).toNat
def bvXor (k : IntKind) (a b : Int) : Int := k.wrap ((BitVec.ofInt k.bits a) ^^^ (BitVec.ofInt k.bits b)).toNat
def bvAndNot (k : IntKind) (a b : Int) : Int := k.wrap ((BitVec.ofInt k.bits a) &&& ~~~(BitVec.ofInt k.bits b)).toNat
def intOp (op : BinOp) (k : IntKind) (a b : Int) : Option AV := match op with
  | .add => some (.int k (k.wrap (a + b)))
  | .sub => some (.int k (k.wrap (a - b)))
  | .mul => some (.int k (k.wrap (a * b)))
  | .quo => if b = 0 then none else some (.int k (k.wrap (a.tdiv b)))
  | .rem => if b = 0 then none else some (.int k (a.tmod b))
  | .and => some (.int k (bvAnd k a b))
  | .or => some (.int k (bvOr k a b))
  | .xor => some (.int k (bvXor k a b))
  | .andNot => some (.int k (bvAndNot k a b))
  | .eql => some (.bool (decide (a = b)))
  | .neq => some (.bool (!decide (a = b)))
  | .lss => some (.bool (decide (a < b)))
  | .leq => some (.bool (decide (a ≤ b)))
  | .gtr => some (.bool (decide (b < a)))
  | .geq => some (.bool (decide (b ≤ a)))
  | _ => none

def shOp (op : BinOp) (k : IntKind) (a b : Int) : Option AV := if b < 0 then none else match op with
  | .shl => some (.int k (k.wrap (a * 2 ^ (min b.toNat k.bits))))
  | .shr => some (.int k (a.fdiv (2 ^ (min b.toNat k.bits))))
  | _ => none

def strOp (op : BinOp) (a b : List UInt8) : Option AV := match op with
  | .add => if a.length + b.length ≤ 2 ^ 62 then some (.str (a ++ b)) else none
  | .eql => some (.bool (decide (a = b)))
  | .neq => some (.bool (!decide (a = b)))
  | .lss => some (.bool (Op.bytesLess a b))
  | .leq => some (.bool (Op.bytesLess a b || decide (a = b)))
  | .gtr => some (.bool (!(Op.bytesLess a b || decide (a = b))))
  | .geq => some (.bool (!Op.bytesLess a b))
  | _ => none

def isShift : BinOp → Bool
  | .shl | .shr => true
  | _ => false

/-- A comparison of structs whose fields are all compared as they stand. -/
def scalarTy : Ty → Bool
  | .int _ | .bool | .str => true
  | _ => false
def flatFs (P : Program) : Nat → List Field → Bool
  | _, [] => true
  | i, f :: l => f.name != "_" && f.offset == i && scalarTy (tyOf P f.type) && flatFs P (i + 1) l
def flatD (P : Program) : Option TypeDesc → Bool
  | some (.struct fs) => flatFs P 0 fs.toList
  | _ => false
def flatTy (P : Program) (t : TypeId) : Bool := flatD P (P.underlying t) && !P.stoodInHeld t && !P.eqGuardType P.depth t
def fitT : Ty → AV → Bool
  | .int k, .int k' _ => k == k'
  | .bool, .bool _ => true
  | .str, .str _ => true
  | _, _ => false
def fitsTy (P : Program) : List (Nat × TypeId) → List AV → Bool
  | [], [] => true
  | (_, t) :: l, x :: r => fitT (tyOf P t) x && fitsTy P l r
  | _, _ => false

def intBin (op : BinOp) (k k' : IntKind) (a b : Int) : Bool → Option AV
  | true => shOp op k a b
  | false => bif k == k' then intOp op k a b else none
def boolBin (a b : Bool) : BinOp → Ty → Option AV
  | .eql, .bool => some (.bool (a == b))
  | .neq, .bool => some (.bool (!(a == b)))
  | _, _ => none
def eqBin (r : Option Bool) : BinOp → Option AV
  | .eql => r.map .bool
  | .neq => r.map fun b => .bool (!b)
  | _ => none
def aggBin (P : Program) (op : BinOp) (t : TypeId) (xs ys : List AV) : Ty → Option AV
  | .strct fs => bif flatTy P t && fitsTy P fs xs && fitsTy P fs ys then eqBin (eqL xs ys) op else none
  | _ => none
/-- A slice held against nil: one that has elements is not nil. -/
def nilBin (op : BinOp) (xs : List AV) : Ty → Option AV
  | .slice _ => if xs = [] then none else eqBin (some false) op
  | _ => none
def nilsBin (op : BinOp) : Ty → Option AV
  | .slice _ => eqBin (some true) op
  | _ => none
def binV (P : Program) (op : BinOp) (t : TypeId) : AV → AV → Option AV
  | .int k a, .int k' b => intBin op k k' a b (isShift op)
  | .str a, .str b => strOp op a b
  | .bool a, .bool b => boolBin a b op (tyOf P t)
  | .agg xs, .agg ys => aggBin P op t xs ys (tyOf P t)
  | .lst _ _ xs, .nils => nilBin op xs (tyOf P t)
  | .nils, .nils => nilsBin op (tyOf P t)
  | _, _ => none

def unInt (k : IntKind) (n : Int) : UnOp → Option AV
  | .neg => some (.int k (k.wrap (0 - n)))
  | .xor => some (.int k (bvXor k (if k.signed then -1 else k.max) n))
  | _ => none
def unBool (b : Bool) : UnOp → Option AV
  | .not => some (.bool !b)
  | _ => none
def unV (op : UnOp) : AV → Option AV
  | .int k n => unInt k n op
  | .bool b => unBool b op
  | _ => none

def boolV : AV → Option Bool
  | .bool b => some b
  | _ => none
def cloV : AV → Option (FuncId × List AV × List AV)
  | .clo f a c => some (f, a, c)
  | _ => none

def lenS : AV → Option Nat
  | .str s => some s.length
  | _ => none
def lenV (S : St) : AV → Option Nat
  | .lst _ _ xs => some xs.length
  | .nils => some 0
  | .own b => (hlook S.hp b).map (·.xs.length)
  | .sub _ _ n => some n
  | _ => none

/-- Bytes, each in a cell. -/
def u8L : List AV → Bool
  | [] => true
  | .int .u8 _ :: l => u8L l
  | _ => false
/-- The elements that a slice holds. -/
def elemsV (S : St) : AV → Option (Nat × Bool × List AV)
  | .lst e fl xs => some (e, fl, xs)
  | .nils => some (0, true, [])
  | .own b => andK (hlook S.hp b) fun k => bif k.bx then none else some (k.e, k.fl, k.xs)
  | .sub b i n => andK (hlook S.hp b) fun k => bif k.bx then none else some (k.e, k.fl, (k.xs.drop i).take n)
  | .asl b i j n => andK (hlook S.hp b) fun k => andK (k.xs[i]?) fun x => if u8L ((x.cells.drop j).take n) = true ∧ j + n ≤ x.cells.length then some (1, true, (x.cells.drop j).take n) else none
  | _ => none

def encB (b : UInt8) : AV := .int .u8 b.toNat
def decB : List AV → Option (List UInt8)
  | [] => some []
  | .int .u8 n :: l => (decB l).map (UInt8.ofNat n.toNat :: ·)
  | _ => none

/-- The cells that a pointer leads to. -/
def derefV (S : St) : AV → Option (List AV)
  | .ref x => some x.cells
  | .ptr b i j => andK (hlook S.hp b) fun k => (k.xs[i]?).map fun x => x.cells.drop j
  | _ => none

/-- An array read out of a row of bytes. -/
def rowP (S : St) : AV → Bool
  | .ptr b _ _ => (hlook S.hp b).elim false fun k => !k.bx && k.e == 1
  | _ => false
def loadRow (S : St) (n : Nat) : AV → Option AV
  | .ptr b i 0 => andK (hlook S.hp b) fun k => if k.bx = false ∧ k.e = 1 ∧ i + n ≤ k.xs.length ∧ u8L ((k.xs.drop i).take n) = true then some (.agg ((k.xs.drop i).take n)) else none
  | _ => none
def loadC (P : Program) (S : St) (t : TypeId) (p : AV) : Bool → Option AV
  | true => loadRow S (szOf P t) p
  | false => andK (derefV S p) fun cs => part cs 0 (szOf P t) (tyOf P t).agg
def loadV (P : Program) (S : St) (t : TypeId) (p : AV) : Option AV := bif known P t then loadC P S t p ((tyOf P t).agg && rowP S p) else none

/-- An address inside what a pointer leads to. -/
def intoV (S : St) (o s : Nat) (agg : Bool) : AV → Option AV
  | .ref x => (part x.cells o s agg).map .ref
  | .ptr b i j => andK (hlook S.hp b) fun k => andK (k.xs[i]?) fun x => if j + o + s ≤ x.cells.length then some (.ptr b i (j + o)) else none
  | _ => none

def setCells (cs : List AV) (j : Nat) : List AV → List AV
  | [] => cs
  | x :: l => setCells (cs.set j x) (j + 1) l

/-- An element with some of its cells anew. -/
def setElem (x : AV) (j : Nat) (v : AV) : AV := match x with
  | .agg cs => .agg (setCells cs j v.cells)
  | _ => v

def storeV (S : St) (s : Nat) (v : AV) : AV → Option St
  | .ptr b i j => andK (hlook S.hp b) fun k => andK (k.xs[i]?) fun x =>
    bif k.ok && v.okVal && v.cells.length == s && decide (0 < s) && decide (j + s ≤ x.cells.length) && (v.closed || k.bx) && (v.noMem || !k.fl) then some (S.withHp (setl S.hp b ⟨k.e, k.fl, k.bx, k.xs.set i (setElem x j v), true⟩)) else none
  | _ => none

def natV : AV → Option Int
  | .int _ n => some n
  | _ => none

def idxV (S : St) (i : Int) (s : Nat) : AV → Option AV
  | .lst e _ xs => if e = s then (if 0 ≤ i then (xs[i.toNat]?).map .ref else none) else none
  | .own b => andK (hlook S.hp b) fun k => if k.e = s ∧ 0 ≤ i ∧ i.toNat < k.xs.length then some (.ptr b i.toNat 0) else none
  | .sub b o n => andK (hlook S.hp b) fun k => if k.e = s ∧ 0 ≤ i ∧ i.toNat < n then some (.ptr b (o + i.toNat) 0) else none
  | _ => none

def idxAddrT (P : Program) (S : St) (x : AV) (i : Int) : Ty → Option AV
  | .slice e => bif known P e then idxV S i (szOf P e) x else none
  | .arr n e => if known P e = true ∧ 0 ≤ i ∧ i < n then intoV S (i.toNat * szOf P e) (szOf P e) (tyOf P e).agg x else none
  | _ => none
def idxAddrV (P : Program) (S : St) (t : TypeId) (x i : AV) : Option AV := andK (natV i) fun i => idxAddrT P S x i (tyOf P t)

def indexT (P : Program) (i : Int) : Ty → AV → Option AV
  | .str, .str s => if 0 ≤ i then (s[i.toNat]?).map encB else none
  | .arr n e, .agg cs => if known P e = true ∧ 0 ≤ i ∧ i < n then part cs (i.toNat * szOf P e) (szOf P e) (tyOf P e).agg else none
  | _, _ => none
def indexV (P : Program) (t : TypeId) (x i : AV) : Option AV := andK (natV i) fun i => indexT P i (tyOf P t) x

/-- Bounds of a slice expression: low, high. -/
def cutV (n : Nat) (lo hi : Option AV) : Option (Nat × Nat) :=
  andK (hi.elim (some (n : Int)) natV) fun h => andK (lo.elim (some 0) natV) fun l => if 0 ≤ l ∧ l ≤ h ∧ h ≤ n then some (l.toNat, h.toNat) else none

def sliceStr (lo hi : Option AV) : AV → Option AV
  | .str s => (cutV s.length lo hi).map fun q => .str ((s.take q.2).drop q.1)
  | _ => none
def sliceV (S : St) (s : Nat) (lo hi : Option AV) : AV → Option AV
  | .lst e fl xs => bif e == s then (cutV xs.length lo hi).map fun q => .lst e fl ((xs.take q.2).drop q.1) else none
  | .nils => (cutV 0 lo hi).map fun _ => .nils
  | .own b => andK (hlook S.hp b) fun k => bif !k.bx && (k.e == s) then (cutV k.xs.length lo hi).map fun q => .sub b q.1 (q.2 - q.1) else none
  | .sub b o n => andK (hlook S.hp b) fun k => bif !k.bx && (k.e == s) then andK (hi.elim (some (n : Int)) natV) fun h => (cutV (k.xs.length - o) lo (some (.int .i64 h))).map fun q => .sub b (o + q.1) (q.2 - q.1) else none
  | _ => none

def convBytes (S : St) (x : AV) : Ty → Option (AV × List (Nat × Blk))
  | .int .u8 => andK (elemsV S x) fun (_, _, xs) => (decB xs).map fun s => (.str s, S.hp)
  | _ => none
def convStr (S : St) (s : List UInt8) (d : Nat) : Ty → Option Blk → Option (AV × List (Nat × Blk))
  | .int .u8, none => bif decide (d < 500000) then some (.own d, (d, ⟨1, true, false, s.map encB, true⟩) :: S.hp) else none
  | _, _ => none
/-- A row of bytes to its own type: it goes on as it is. -/
def ownOk (k : Blk) : Bool := k.ok && !k.bx && (k.e == 1) && decide (0 < k.xs.length)
def convOwn (S : St) : AV → Option (AV × List (Nat × Blk))
  | .own b => andK (hlook S.hp b) fun k => bif ownOk k then some (.own b, S.hp) else none
  | _ => none
def convSelf (S : St) (x : AV) : Bool → Ty → Option (AV × List (Nat × Blk))
  | true, .int .u8 => convOwn S x
  | _, _ => none
def convT (P : Program) (S : St) (d : Nat) (same : Bool) : Ty → Ty → AV → Option (AV × List (Nat × Blk))
  | .int _, .int k, .int _ n => some (.int k (k.wrap n), S.hp)
  | .str, .str, .str s => some (.str s, S.hp)
  | .slice e, .str, x => convBytes S x (tyOf P e)
  | .str, .slice e, .str s => convStr S s d (tyOf P e) (hlook S.hp d)
  | .slice _, .slice e, x => convSelf S x same (tyOf P e)
  | _, _, _ => none
def convV (P : Program) (S : St) (src dst : TypeId) (x : AV) (d : Nat) : Option (AV × List (Nat × Blk)) := convT P S d (src == dst) (tyOf P src) (tyOf P dst) x

def newO (S : St) (d : Nat) (k : Blk) : Option Blk → Option (AV × List (Nat × Blk))
  | none => some (bif k.bx then .ptr d 0 0 else .own d, (d, k) :: S.hp)
  | some _ => none
def newBlk (S : St) (d : Nat) (k : Blk) : Option (AV × List (Nat × Blk)) := bif decide (d < 500000) then newO S d k (hlook S.hp d) else none

def fillV (places : List (Nat × Nat × Bool)) (cs : List AV) : List (Nat × AV) → Option (List AV)
  | [] => some cs
  | (i, v) :: l => andK (places[i]?) fun p => if v.cells.length = p.2.1 ∧ p.1 + p.2.1 ≤ cs.length then fillV places (setCells cs p.1 v.cells) l else none

def setAll : List AV → List (Nat × AV) → List AV
  | xs, [] => xs
  | xs, (i, v) :: l => setAll (xs.set i v) l

def allClosed : List AV → Bool
  | [] => true
  | x :: l => x.closed && allClosed l
def allNoMem : List AV → Bool
  | [] => true
  | x :: l => x.noMem && allNoMem l
def allOk : List AV → Bool
  | [] => true
  | x :: l => x.okVal && allOk l
def sizesAre (e n : Nat) : List (Nat × AV) → Bool
  | [] => true
  | (i, x) :: l => x.cells.length == e && decide (i < n) && sizesAre e n l

def evP (S : St) (p : Nat × Operand) : Nat × AV := (p.1, S.ev p.2)
/-- An array's elements put down. -/
def arrV (s : Nat) (cs : List AV) : List (Nat × AV) → Option (List AV)
  | [] => some cs
  | (i, v) :: l => if v.cells.length = s ∧ i * s + s ≤ cs.length then arrV s (setCells cs (i * s) v.cells) l else none
def buildT (P : Program) (ze : AV) (ps : List (Nat × AV)) : Ty → Option AV
  | .strct fs => bif fs.all (fun p => known P p.2) && allOk (ps.map (·.2)) then (fillV (fs.map fun p => (p.1, szOf P p.2, (tyOf P p.2).agg)) ze.cells ps).map .agg else none
  | .arr _ e => bif known P e && allOk (ps.map (·.2)) then (arrV (szOf P e) ze.cells ps).map .agg else none
  | _ => none
def pickV (S : St) (a b : Operand) : Bool → AV
  | true => S.ev a
  | false => S.ev b
def bsliceT (P : Program) (S : St) (d n : Nat) (ps : List (Nat × AV)) : Ty → Option (AV × List (Nat × Blk))
  | .slice e => bif zeroOk P e && (zeOf P e).okVal && sizesAre (szOf P e) n ps && allClosed (ps.map (·.2)) && allOk (ps.map (·.2)) && decide (n * szOf P e ≤ 2 ^ 24) && decide (0 < szOf P e) then newBlk S d ⟨szOf P e, (zeOf P e).noMem && allNoMem (ps.map (·.2)), false, setAll (List.replicate n (zeOf P e)) ps, true⟩ else none
  | _ => none
def nilV : AV → Option AV
  | .clo f a b => some (.clo f a b)
  | .ptr b i j => some (.ptr b i j)
  | .ref y => some (.ref y)
  | _ => none
def makeT (P : Program) (S : St) (d : Nat) (n c : Int) : Ty → Option (AV × List (Nat × Blk))
  | .slice e => if (zeroOk P e && (zeOf P e).okVal) = true ∧ 0 ≤ n ∧ n ≤ c ∧ c ≤ 2 ^ 40 ∧ byOf P e ≤ 80 then newBlk S d ⟨szOf P e, (zeOf P e).noMem, false, List.replicate n.toNat (zeOf P e), true⟩ else none
  | _ => none
/-- A slice of an array's cells. -/
def sliceArr (S : St) (n : Nat) (lo hi : Option AV) : AV → Option AV
  | .ptr b i j => andK (hlook S.hp b) fun k => andK (k.xs[i]?) fun x => andK (cutV n lo hi) fun q => if j + n ≤ x.cells.length ∧ q.1 < n then some (.asl b i (j + q.1) (q.2 - q.1)) else none
  | _ => none
def sliceT (P : Program) (S : St) (lo hi : Option AV) (x : AV) : Ty → Option AV
  | .slice e => bif known P e then sliceV S (szOf P e) lo hi x else none
  | .str => sliceStr lo hi x
  | .arr n e => bif known P e && (szOf P e == 1) then sliceArr S n lo hi x else none
  | _ => none
/-- The bounds of a slice whose capacity is told; what comes of it is not looked at. -/
def bound3 (n : Nat) (lo hi m : AV) : Option AV := andK (natV lo) fun l => andK (natV hi) fun h => andK (natV m) fun c => if 0 ≤ l ∧ l ≤ h ∧ h ≤ c ∧ c ≤ n then some .undef else none
def slice3T (P : Program) (S : St) (lo hi m x : AV) : Ty → Option AV
  | .slice e => bif known P e then andK (elemsV S x) fun q => bound3 q.2.2.length lo hi m else none
  | _ => none
/-- The array that a slice's elements are: a pointer to it. -/
def arrP (S : St) (n : Nat) : AV → Option AV
  | .asl b i j m => if n ≤ m then some (.ptr b i j) else none
  | .own b => andK (hlook S.hp b) fun k => if k.bx = false ∧ k.e = 1 ∧ 0 < n ∧ n ≤ k.xs.length then some (.ptr b 0 0) else none
  | _ => none
def arrPT (S : St) (x : AV) : Ty → Option AV
  | .arr n _ => arrP S n x
  | _ => none
def fieldV (x : AV) (q : Nat × Nat × Bool) : Option AV := match x with
  | .agg cs => part cs q.1 q.2.1 q.2.2
  | _ => none
def extractV (i : Nat) : AV → Option AV
  | .tup vs => vs[i]?
  | _ => none

/-- The operations that look at no memory, read some, or make a block of their own: the value, and the heap behind. -/
def opv (P : Program) (d : Nat) (S : St) : Op → Option (AV × List (Nat × Blk))
  | .move x => some (S.ev x, S.hp)
  | .assign x => some (S.ev x, S.hp)
  | .pick c a b => (boolV (S.ev c)).map fun t => (pickV S a b t, S.hp)
  | .binOp op t x y _ => (binV P op t (S.ev x) (S.ev y)).map (·, S.hp)
  | .unOp op _ x => (unV op (S.ev x)).map (·, S.hp)
  | .convert a b x => convV P S a b (S.ev x) d
  | .alloc t => bif zeroOk P t && (zeOf P t).okVal then newBlk S d ⟨szOf P t, false, true, [zeOf P t], true⟩ else none
  | .box t x => if (S.ev x).okVal = true ∧ (S.ev x).cells.length = szOf P t then newBlk S d ⟨szOf P t, false, true, [S.ev x], true⟩ else none
  | .build t ps => bif zeroOk P t then (buildT P (zeOf P t) (ps.toList.map (evP S)) (tyOf P t)).map (·, S.hp) else none
  | .buildSlice t n ps => bsliceT P S d n (ps.toList.map (evP S)) (tyOf P t)
  | .load t p => (loadV P S t (S.ev p)).map (·, S.hp)
  | .nilCheck x => (nilV (S.ev x)).map (·, S.hp)
  | .sliceToArrayPointer t x => (arrPT S (S.ev x) (tyOf P t)).map (·, S.hp)
  | .makeFunc (.func f) a b => some (.clo f (a.toList.map S.ev) (b.toList.map S.ev), S.hp)
  | .makeSlice t n c => andK (natV (S.ev n)) fun n => andK (natV (S.ev c)) fun c => makeT P S d n c (tyOf P t)
  | .slice t x (some lo) (some hi) (some m) => (slice3T P S (S.ev lo) (S.ev hi) (S.ev m) (S.ev x) (tyOf P t)).map (·, S.hp)
  | .slice t x lo hi none => (sliceT P S (lo.map S.ev) (hi.map S.ev) (S.ev x) (tyOf P t)).map (·, S.hp)
  | .fieldAddr t x f => andK (fldOf P t f) fun q => (intoV S q.1 q.2.1 q.2.2 (S.ev x)).map (·, S.hp)
  | .field t x f => andK (fldOf P t f) fun q => (fieldV (S.ev x) q).map (·, S.hp)
  | .indexAddr t x i => (idxAddrV P S t (S.ev x) (S.ev i)).map (·, S.hp)
  | .index t x i => (indexV P t (S.ev x) (S.ev i)).map (·, S.hp)
  | .extract x i => (extractV i (S.ev x)).map (·, S.hp)
  | _ => none

/-! ### append, copy, min, max -/
def maxV : AV → AV → Option AV
  | .int k a, .int _ b => some (.int k (if b > a then b else a))
  | _, _ => none
def minV : AV → AV → Option AV
  | .int k a, .int _ b => some (.int k (if b < a then b else a))
  | _, _ => none
def foldV (f : AV → AV → Option AV) : AV → List AV → Option AV
  | x, [] => some x
  | x, y :: l => andK (f x y) fun z => foldV f z l

/-- What 'append' puts behind: elements of a slice, bytes of a text. -/
def moreV (S : St) (s : Nat) : AV → Option (Bool × List AV)
  | .str t => if s = 1 then some (true, t.map encB) else none
  | x => andK (elemsV S x) fun (e, fl, xs) => if e = s ∨ xs = [] then some (fl, xs) else none

def appendV (P : Program) (d : Nat) (S : St) (e : TypeId) (fl : Bool) (new : List AV) : AV → Option (AV × St)
  | .nils => if new.length ≤ 2 ^ 40 ∧ byOf P e ≤ 80 then (newBlk S d ⟨szOf P e, fl, false, new, true⟩).map fun p => (p.1, S.withHp p.2) else none
  | .own b => andK (hlook S.hp b) fun k => if (k.ok && !k.bx && (k.e == szOf P e)) = true ∧ k.xs.length + new.length ≤ 2 ^ 40 ∧ byOf P e ≤ 80
      then (newBlk (S.kill b) d ⟨szOf P e, k.fl && fl, false, k.xs ++ new, true⟩).map fun p => (p.1, (S.kill b).withHp p.2) else none
  | .sub b o n => andK (hlook S.hp b) fun k => if (k.ok && !k.bx && (k.e == szOf P e) && (fl || !k.fl)) = true ∧ o + n + new.length ≤ k.xs.length
      then some (.sub b o (n + new.length), S.withHp (setl S.hp b ⟨k.e, k.fl, false, k.xs.take (o + n) ++ new ++ k.xs.drop (o + n + new.length), true⟩)) else none
  | _ => none

def copyB (S : St) (b s o n : Nat) (k : Blk) (q : Bool × List AV) : Option (AV × St) :=
  if (k.ok && !k.bx && (k.e == s) && (q.1 || !k.fl)) = true ∧ o + n ≤ k.xs.length
    then some (.int .i64 ((min q.2.length n : Nat) : Int), S.withHp (setl S.hp b ⟨k.e, k.fl, false, k.xs.take o ++ (q.2.take n ++ (k.xs.drop (o + min q.2.length n))), true⟩)) else none
/-- .. onto an array's cells. -/
def copyA (S : St) (b i j n : Nat) (k : Blk) (x : AV) (q : Bool × List AV) : Option (AV × St) :=
  if k.ok = true ∧ j + n ≤ x.cells.length ∧ u8L (q.2.take n) = true ∧ 0 < min q.2.length n
    then some (.int .i64 ((min q.2.length n : Nat) : Int), S.withHp (setl S.hp b ⟨k.e, k.fl, k.bx, k.xs.set i (setElem x j (.agg (q.2.take n))), true⟩)) else none
def copyV (S : St) (s : Nat) (x : AV) : AV → Option (AV × St)
  | .asl b i j n => andK (hlook S.hp b) fun k => andK (k.xs[i]?) fun e => andK (moreV S s x) fun q => bif s == 1 then copyA S b i j n k e q else none
  | .own b => andK (hlook S.hp b) fun k => andK (moreV S s x) fun q => copyB S b s 0 k.xs.length k q
  | .sub b o n => andK (hlook S.hp b) fun k => andK (moreV S s x) fun q => copyB S b s o n k q
  | _ => none

def lenT (S : St) (x : AV) : Ty → Option AV
  | .arr n _ => some (.int .i64 n)
  | .str => (lenS x).map fun (n : Nat) => AV.int .i64 (n : Int)
  | .slice _ => (lenV S x).map fun (n : Nat) => AV.int .i64 (n : Int)
  | _ => none
/-- What 'append' puts behind where it is told a number: so many noughts. -/
def zerosV (P : Program) (e : TypeId) : AV → Option (Bool × List AV)
  | .int .i64 n => if (zeOf P e).okVal = true ∧ 0 ≤ n ∧ n ≤ 2 ^ 40 ∧ byOf P e ≤ 80 then some ((zeOf P e).noMem, List.replicate n.toNat (zeOf P e)) else none
  | _ => none
def appendT (P : Program) (d : Nat) (S : St) (s x : AV) : Ty → Ty → Option (AV × St)
  | .slice e, .str => bif zeroOk P e then andK (moreV S (szOf P e) x) fun q => appendV P d S e q.1 q.2 s else none
  | .slice e, .slice _ => bif zeroOk P e then andK (moreV S (szOf P e) x) fun q => appendV P d S e q.1 q.2 s else none
  | .slice e, .int _ => bif zeroOk P e then andK (zerosV P e x) fun q => appendV P d S e q.1 q.2 s else none
  | _, _ => none
def copyT (P : Program) (S : St) (x y : AV) : Ty → Option (AV × St)
  | .slice e => bif known P e then copyV S (szOf P e) y x else none
  | _ => none

def clearB (P : Program) (S : St) (e : TypeId) (b o n : Nat) (k : Blk) : Option (AV × St) :=
  if (k.ok && !k.bx && (k.e == szOf P e) && (zeOf P e).okVal && ((zeOf P e).noMem || !k.fl)) = true ∧ o + n ≤ k.xs.length
    then some (.tup [], S.withHp (setl S.hp b ⟨k.e, k.fl, false, k.xs.take o ++ (List.replicate n (zeOf P e) ++ k.xs.drop (o + n)), true⟩)) else none
def clearV (P : Program) (S : St) (e : TypeId) : AV → Option (AV × St)
  | .own b => andK (hlook S.hp b) fun k => clearB P S e b 0 k.xs.length k
  | .sub b o n => andK (hlook S.hp b) fun k => clearB P S e b o n k
  | _ => none
def clearT (P : Program) (S : St) (x : AV) : Ty → Option (AV × St)
  | .slice e => bif zeroOk P e then clearV P S e x else none
  | _ => none

def builtinV (P : Program) (d : Nat) (S : St) : Builtin → List TypeId → List AV → Option (AV × St)
  | .len, t :: _, [x] => (lenT S x (tyOf P t)).map fun v => (v, S)
  | .max, _, x :: l => (foldV maxV x l).map fun v => (v, S)
  | .min, _, x :: l => (foldV minV x l).map fun v => (v, S)
  | .append, t :: u :: _, [s, x] => appendT P d S s x (tyOf P t) (tyOf P u)
  | .copy, t :: _, [x, y] => copyT P S x y (tyOf P t)
  | .clear, t :: _, [x] => clearT P S x (tyOf P t)
  | _, _, _ => none

/-! ### Calls -/
/-- The blocks that a value names, those behind its boxes with them. -/
def boxXs : Option Blk → List AV
  | some ⟨_, _, true, xs, _⟩ => xs
  | _ => []
def namesV : Nat → St → AV → List Nat
  | 0, _, _ => []
  | n + 1, S, x => match x with
    | .own b => [b]
    | .sub b _ _ => [b]
    | .ptr b _ _ => b :: (boxXs (hlook S.hp b)).flatMap (fun x => x.cells.flatMap (namesV n S))
    | .agg xs => xs.flatMap (namesV n S)
    | .tup xs => xs.flatMap (namesV n S)
    | .clo _ a c => a.flatMap (namesV n S) ++ c.flatMap (namesV n S)
    | _ => []

def mapO {α β : Type} (f : α → Option β) : List α → Option (List β)
  | [] => some []
  | x :: l => andK (f x) fun y => (mapO f l).map (y :: ·)

/-- A value as a callee sees it that only reads. -/
def refOf : List AV → AV
  | [z] => .ref z
  | zs => .ref (.agg zs)
def lstOf (k : Blk) (xs : List AV) : Bool → Option AV
  | true => none
  | false => some (.lst k.e k.fl xs)
def closeV : Nat → St → AV → Option AV
  | 0, _, _ => none
  | n + 1, S, x => match x with
    | .own b => andK (hlook S.hp b) fun k => lstOf k k.xs k.bx
    | .sub b i m => andK (hlook S.hp b) fun k => lstOf k ((k.xs.drop i).take m) k.bx
    | .ptr b i j => andK (hlook S.hp b) fun k => andK (k.xs[i]?) fun y => (mapO (closeV n S) (y.cells.drop j)).map refOf
    | .agg xs => (mapO (closeV n S) xs).map .agg
    | .clo f a c => andK (mapO (closeV n S) a) fun a => (mapO (closeV n S) c).map fun c => .clo f a c
    | .tup _ => none
    | .fr .. => none
    | .bx _ => none
    | .asl .. => none
    | x => some x

/-- What is lent of a block: its elements, or its one value. -/
def frOf (b : Nat) (xs : List AV) : Blk → Option (AV × List Nat)
  | ⟨e, fl, false, _, true⟩ => some (.fr e fl xs, [b])
  | _ => none
def bxOf (b : Nat) : Blk → Option (AV × List Nat)
  | ⟨_, false, true, [x], true⟩ => bif x.closed then some (.bx x, [b]) else none
  | _ => none
def plainOf (x : AV) : Bool → Option (AV × List Nat)
  | true => some (x, [])
  | false => none
/-- A value lent: its own blocks go along, to be written. -/
def lendV (S : St) : AV → Option (AV × List Nat)
  | .own b => andK (hlook S.hp b) fun k => frOf b k.xs k
  | .ptr b 0 0 => andK (hlook S.hp b) fun k => bxOf b k
  | .agg xs => (lendL S xs).map fun p => (.agg p.1, p.2)
  | x => plainOf x x.closed
where
  lendL (S : St) : List AV → Option (List AV × List Nat)
  | [] => some ([], [])
  | x :: l => andK (lendV S x) fun p => (lendL S l).map fun q => (p.1 :: q.1, p.2 ++ q.2)

/-- A value handed over: its fresh parts become blocks. -/
def recvV (id : Nat) : AV → AV × List (Nat × Blk) × Nat
  | .fr e fl xs => (.own id, [(id, ⟨e, fl, false, xs, true⟩)], id + 1000)
  | .bx x => (.ptr id 0 0, [(id, ⟨x.cells.length, false, true, [x], true⟩)], id + 1000)
  | .agg xs => let (ys, h, id) := recvL id xs; (.agg ys, h, id)
  | .tup xs => let (ys, h, id) := recvL id xs; (.tup ys, h, id)
  | x => (x, [], id)
where
  recvL (id : Nat) : List AV → List AV × List (Nat × Blk) × Nat
  | [] => ([], [], id)
  | x :: l => let (y, h, id) := recvV id x; let (ys, hs, id) := recvL id l; (y :: ys, h ++ hs, id)

/-- A result: its own blocks are given up. -/
def outOf (b : Nat) (xs : List AV) : Blk → Option (AV × List Nat)
  | ⟨e, fl, false, _, true⟩ => some (.fr e fl xs, [b])
  | ⟨e, fl, false, _, false⟩ => some (.lst e fl xs, [])
  | _ => none
def exportV (S : St) : AV → Option (AV × List Nat)
  | .own b => andK (hlook S.hp b) fun k => outOf b k.xs k
  | .sub b i n => andK (hlook S.hp b) fun k => outOf b ((k.xs.drop i).take n) k
  | .ptr b 0 0 => andK (hlook S.hp b) fun k => bxOf b k
  | .agg xs => (exportL S xs).map fun p => (.agg p.1, p.2)
  | .tup xs => (exportL S xs).map fun p => (.tup p.1, p.2)
  | x => plainOf x x.closed
where
  exportL (S : St) : List AV → Option (List AV × List Nat)
  | [] => some ([], [])
  | x :: l => andK (exportV S x) fun p => (exportL S l).map fun q => (p.1 :: q.1, p.2 ++ q.2)

/-- Nothing of the value is memory but what is fresh and flat. -/
def AV.apart : AV → Bool
  | .fr _ fl _ => fl
  | .bx x => x.noMem
  | .nils => true
  | .agg xs | .tup xs => apartL xs
  | x => x.noMem
where
  apartL : List AV → Bool
  | [] => true
  | x :: l => x.apart && apartL l

def disjoint (a b : List Nat) : Bool := a.all fun x => !b.contains x
def nodup : List Nat → Bool
  | [] => true
  | x :: l => !l.contains x && nodup l

/-- The arguments as the callee gets them: what they are, the blocks lent, which of them for good, the blocks read. -/
def passM (S : St) (x : AV) (q : List AV × List Nat × List Bool × List Nat) : Mode → Option (List AV × List Nat × List Bool × List Nat)
  | .b => (closeV 6 S x).map fun y => (y :: q.1, q.2.1, q.2.2.1, namesV 6 S x ++ q.2.2.2)
  | .l => (lendV S x).map fun p => (p.1 :: q.1, p.2 ++ q.2.1, p.2.map (fun _ => false) ++ q.2.2.1, q.2.2.2)
  | .m => (lendV S x).map fun p => (p.1 :: q.1, p.2 ++ q.2.1, p.2.map (fun _ => true) ++ q.2.2.1, q.2.2.2)
def passV (S : St) : List Mode → List AV → Option (List AV × List Nat × List Bool × List Nat)
  | _, [] => some ([], [], [], [])
  | ms, x :: l => andK (passV S ms.tail l) fun q => passM S x q (ms.headD .b)

def fzBlk (b : Nat) (h : List (Nat × Blk)) : Option Blk → List (Nat × Blk)
  | some ⟨e, fl, bx, xs, _⟩ => setl h b ⟨e, fl, bx, xs, false⟩
  | none => h
def freezeL : List Nat → List (Nat × Blk) → List (Nat × Blk)
  | [], h => h
  | b :: l, h => freezeL l (fzBlk b h (hlook h b))

def withXs (xs : List AV) : Blk → Blk
  | ⟨e, fl, bx, _, ok⟩ => ⟨e, fl, bx, xs, ok⟩
def backL : List Nat → List Bool → List (List AV) → List (Nat × Blk) → Option (List (Nat × Blk))
  | [], [], [], h => some h
  | _ :: l, true :: fs, _ :: ys, h => backL l fs ys h
  | b :: l, false :: fs, xs :: ys, h => andK (hlook h b) fun k => backL l fs ys (setl h b (withXs xs k))
  | _, _, _, _ => none

def killM : List Nat → List Bool → St → St
  | b :: l, true :: fs, S => killM l fs (S.kill b)
  | _ :: l, false :: fs, S => killM l fs S
  | _, _, S => S

def pickH (a b : List (Nat × Blk)) : Bool → List (Nat × Blk)
  | true => a
  | false => b
def allNew (hp : List (Nat × Blk)) : List (Nat × Blk) → Bool
  | [] => true
  | (i, _) :: l => decide (i < 500000) && (hlook hp i).isNone && allNew hp l
def landV (S : St) (r : AV × List (Nat × Blk) × Nat) : Option (AV × St) := bif allNew S.hp r.2.1 then some (r.1, S.withHp (r.2.1 ++ S.hp)) else none
/-- What is given back holds no memory. -/
def flatK (xs : List AV) : Option Blk → Bool
  | some k => k.fl || allNoMem xs
  | none => false
def flatL : List Nat → List Bool → List (List AV) → List (Nat × Blk) → Bool
  | _ :: l, true :: fs, _ :: ys, h => flatL l fs ys h
  | b :: l, false :: fs, xs :: ys, h => flatK xs (hlook h b) && flatL l fs ys h
  | _, _, _, _ => true
def backS (d : Nat) (ls : List Nat) (fs : List Bool) (rs : List Nat) (q : AV × List (List AV)) (S : St) : Option (AV × St) :=
  andK (backL ls fs q.2 S.hp) fun h => landV (S.withHp (pickH h (freezeL rs h) (q.1.apart && flatL ls fs q.2 S.hp))) (recvV d q.1)
def backV (d : Nat) (ls : List Nat) (fs : List Bool) (rs : List Nat) (S : St) (q : AV × List (List AV)) : Option (AV × St) := backS d ls fs rs q (killM ls fs S)

def callV (modes : List Mode) (rf : List AV → Option (AV × List (List AV))) (d : Nat) (S : St) (args : List AV) : Option (AV × St) :=
  andK (passV S modes args) fun p => bif nodup p.2.1 && disjoint p.2.1 p.2.2.2 then andK (rf p.1) fun q => backV d p.2.1 p.2.2.1 p.2.2.2 S q else none

/-! ### Values sealed: what they name is not written any more -/
def sealO (S : St) (ns : List Nat) : Option AV → Option (AV × St)
  | some y => some (y, S.withHp (freezeL ns S.hp))
  | none => none
def sealV (S : St) (x : AV) : Option (AV × St) := sealO S (namesV 6 S x) (closeV 6 S x)
/-- A value that is put into a row. -/
def isBx (h : List (Nat × Blk)) : AV → Bool
  | .ptr b _ _ => (hlook h b).elim true (·.bx)
  | _ => true
def storeF (S : St) (s : Nat) (v p : AV) : Bool → Option St
  | true => storeV S s v p
  | false => andK (sealV S v) fun q => storeV q.2 s q.1 p
def sealPs (S : St) : List (Nat × AV) → Option (List (Nat × AV) × St)
  | [] => some ([], S)
  | (i, x) :: l => andK (sealV S x) fun q => andK (sealPs q.2 l) fun r => some ((i, q.1) :: r.1, r.2)
def bsliceF (P : Program) (S : St) (d n : Nat) (ps : List (Nat × AV)) (t : Ty) : Bool → Option (AV × St)
  | true => (bsliceT P S d n ps t).map fun p => (p.1, S.withHp p.2)
  | false => andK (sealPs S ps) fun q => (bsliceT P q.2 d n q.1 t).map fun p => (p.1, q.2.withHp p.2)

abbrev RF := FuncId → List AV → Option (AV × List (List AV))

/-! ### Operations in whatever order -/
def allB : List Mode → Bool
  | [] => true
  | .b :: l => allB l
  | _ => false
def noOuts : List (List AV) → Bool
  | [] => true
  | _ => false
/-- A call that leaves alone what is there. -/
def callD (modes : List Mode) (rf : List AV → Option (AV × List (List AV))) (d : Nat) (S : St) (args : List AV) : Option (AV × St) :=
  bif allB modes then andK (mapO (closeV 6 S) args) fun ys => andK (rf ys) fun q => bif (q.1.apart || allClosed args) && noOuts q.2 then landV S (recvV d q.1) else none else none
def callX (modes : List Mode) (rf : List AV → Option (AV × List (List AV))) (d : Nat) (S : St) (args : List AV) : Bool → Option (AV × St)
  | true => callD modes rf d S args
  | false => callV modes rf d S args
/-- A call that works on the caller's blocks as they are, or one as above. -/
def callY (dp : Option (St → List AV → Option (AV × St))) (modes : List Mode) (rf : List AV → Option (AV × List (List AV))) (d : Nat) (S : St) (args : List AV) (dr : Bool) : Option (AV × St) := match dp with
  | none => callX modes rf d S args dr
  | some g => bif dr then none else g S args
/-- Operations that change what is there. -/
def isE : Op → Bool
  | .store .. => true
  | .call ⟨.builtin .append, _, _⟩ => true
  | .call ⟨.builtin .copy, _, _⟩ => true
  | .call ⟨.builtin .clear, _, _⟩ => true
  | _ => false

def stepV (P : Program) (A : FuncId → Ann) (rf : RF) (dr : Bool) (S : St) (o : Oper) : Option St := match o.op with
  | .store t a x => bif known P t then (storeF S (szOf P t) (S.ev x) (S.ev a) ((S.ev x).closed || isBx S.hp (S.ev a))).map fun S => S.putO o.dst .no else none
  | .buildSlice t n ps => (bsliceF P S (o.dst.getD 0) n (ps.toList.map (evP S)) (tyOf P t) (dr || allClosed ((ps.toList.map (evP S)).map (·.2)))).map fun p => p.2.putO o.dst p.1
  | .call ⟨.builtin b, xs, ts⟩ => (builtinV P (o.dst.getD 0) S b ts.toList (xs.toList.map S.ev)).map fun p => p.2.putO o.dst p.1
  | .call ⟨.value f, xs, _⟩ => andK (cloV (S.ev f)) fun q => (callY (A q.1).deep (A q.1).modes (rf q.1) (o.dst.getD 0) S (q.2.1 ++ xs.toList.map S.ev ++ q.2.2) dr).map fun p => p.2.putO o.dst p.1
  | op => (opv P (o.dst.getD 0) S op).map fun p => (S.withHp p.2).putO o.dst p.1

/-- What a guard's temporary holds: a Bool, or nothing (it was passed over itself). -/
def gB : AV → Option (Option Bool)
  | .bool b => some (some b)
  | .no => some none
  | _ => none
def gV (S : St) : Option Nat → Option (Nat × Option Bool)
  | some t => (gB (S.get t)).map fun b => (t, b)
  | none => some (0, none)
def guardV (all : List Oper) (S : St) (j : Nat) : Option (Nat × Option Bool) := gV S ((all[j]?).bind (·.dst))

/-- In a region whose order is drawn: calm, up to the first operation that changes what is there. -/
def opsV (P : Program) (A : FuncId → Ann) (rf : RF) (all : List Oper) : Bool → List Oper → St → Option St
  | _, [], S => some S
  | dr, o :: l, S => match o.guard with
    | none => (stepV P A rf (dr && !isE o.op) S o).bind (opsV P A rf all (dr && !isE o.op) l)
    | some g => (guardV all S g.1).bind fun q => match q.2 with
      | some b => if b = g.2 then (stepV P A rf (dr && !isE o.op) (S.put q.1 (.bool g.2)) o).bind (opsV P A rf all (dr && !isE o.op) l) else opsV P A rf all (dr && !isE o.op) l ((S.put q.1 (.bool (!g.2))).putO o.dst .no)
      | none => opsV P A rf all (dr && !isE o.op) l (S.putO o.dst .no)

/-! ### Operations in whatever order, with appends among them -/
/-- Operations that write into what is there (an append hands on what it was given). -/
def isH : Op → Bool
  | .store .. => true
  | .call ⟨.builtin .copy, _, _⟩ => true
  | .call ⟨.builtin .clear, _, _⟩ => true
  | _ => false
def lazyA (P : Program) (d : Nat) (S : St) (e : TypeId) (fl : Bool) (new : List AV) : AV → Option (AV × List (Nat × Blk) × Option Nat)
  | .nils => if new.length ≤ 2 ^ 40 ∧ byOf P e ≤ 80 then (newBlk S d ⟨szOf P e, fl, false, new, true⟩).map fun p => (p.1, p.2, none) else none
  | .own b => andK (hlook S.hp b) fun k => if (k.ok && !k.bx && (k.e == szOf P e)) = true ∧ k.xs.length + new.length ≤ 2 ^ 40 ∧ byOf P e ≤ 80
      then (newBlk S d ⟨szOf P e, k.fl && fl, false, k.xs ++ new, true⟩).map fun p => (p.1, p.2, some b) else none
  | _ => none
def lazyT (P : Program) (d : Nat) (S : St) (s x : AV) : Ty → Ty → Option (AV × List (Nat × Blk) × Option Nat)
  | .slice e, .str => bif zeroOk P e then andK (moreV S (szOf P e) x) fun q => lazyA P d S e q.1 q.2 s else none
  | .slice e, .slice _ => bif zeroOk P e then andK (moreV S (szOf P e) x) fun q => lazyA P d S e q.1 q.2 s else none
  | _, _ => none
def lazyB (P : Program) (d : Nat) (S : St) : List TypeId → List AV → Option (AV × List (Nat × Blk) × Option Nat)
  | t :: u :: _, [s, x] => lazyT P d S s x (tyOf P t) (tyOf P u)
  | _, _ => none
/-- An operation's step, what an append was given left there for the while: the state, and what is to go. -/
def lazyV (P : Program) (A : FuncId → Ann) (rf : RF) (S : St) (o : Oper) : Option (St × Option Nat) := match o.op with
  | .call ⟨.builtin .append, xs, ts⟩ => (lazyB P (o.dst.getD 0) S ts.toList (xs.toList.map S.ev)).map fun q => ((S.withHp q.2.1).putO o.dst q.1, q.2.2)
  | op => bif isE op then none else (stepV P A rf true S o).map fun S => (S, none)
def glazy (P : Program) (A : FuncId → Ann) (rf : RF) (all : List Oper) (S : St) (o : Oper) : Option (St × Option Nat) := match o.guard with
  | none => lazyV P A rf S o
  | some g => (guardV all S g.1).bind fun q => match q.2 with
    | some b => if b = g.2 then lazyV P A rf (S.put q.1 (.bool g.2)) o else some ((S.put q.1 (.bool (!g.2))).putO o.dst .no, none)
    | none => some (S.putO o.dst .no, none)

/-- The names in a value. -/
def AV.names : AV → List Nat
  | .own b => [b]
  | .sub b _ _ => [b]
  | .ptr b _ _ => [b]
  | .asl b _ _ _ => [b]
  | .agg xs => namesL xs
  | .tup xs => namesL xs
  | .clo _ a c => namesL a ++ namesL c
  | _ => []
where
  namesL : List AV → List Nat
  | [] => []
  | x :: l => x.names ++ namesL l

def looksL (all : List Oper) (o : Oper) : List Nat :=
  (o.op.operands.toList.filterMap fun | .tmp t => some t | _ => none) ++ (match o.guard with
    | some g => ((all[g.1]?).bind (·.dst)).toList
    | none => [])
def dirE (o : Option Oper) (i : Nat) : Bool := match o with
  | some o => o.after.toList.any fun e => Region.binds .any e && e.on == i
  | none => false
/-- Operation i comes ahead of operation j, by three edges at most. -/
def reach (all : List Oper) : Nat → Nat → Nat → Bool
  | 0, _, _ => false
  | n + 1, i, j => dirE all[j]? i || (match all[j]? with
    | some o => o.after.toList.any fun e => Region.binds .any e && reach all n i e.on
    | none => false)
def clearN (S : St) (b : Nat) : List Nat → Bool
  | [] => true
  | t :: l => !(S.get t).names.contains b && clearN S b l
def clear1 (all : List Oper) (i j : Nat) : Bool → Bool
  | true => true
  | false => reach all 3 i j
def clearK (all : List Oper) (S0 S : St) (i : Nat) (l : List Nat) : List (Nat × Nat) → Bool
  | [] => true
  | (j, b) :: K => clear1 all i j (i == j || (clearN S0 b l && clearN S b l)) && clearK all S0 S i l K
def softOk (all : List Oper) (S0 S : St) (K : List (Nat × Nat)) : Nat → Nat → List Oper → Bool
  | _, 0, _ => true
  | _, _, [] => true
  | i, n + 1, o :: l => clearK all S0 S i (looksL all o) K && softOk all S0 S K (i + 1) n l
def disjointL (bs l : List Nat) : Bool := bs.all fun x => !l.contains x
def boxFree (bs : List Nat) : List (Nat × Blk) → Bool
  | [] => true
  | (_, ⟨_, _, true, xs, _⟩) :: l => disjointL bs (AV.names.namesL xs) && boxFree bs l
  | (_, ⟨_, _, false, _, _⟩) :: l => boxFree bs l
def killAll : List Nat → St → St
  | [], S => S
  | b :: l, S => (killAll l S).kill b
def secs : List (Nat × Nat) → List Nat
  | [] => []
  | (_, b) :: l => b :: secs l
def endS (all : List Oper) (S0 : St) (m : Nat) : List (Nat × Nat) → St → Option St
  | [], S => some S
  | p :: K, S => bif softOk all S0 S (p :: K) 0 m all && boxFree (secs (p :: K)) S.hp then some (killAll (secs (p :: K)) S) else none
def consK (i : Nat) (K : List (Nat × Nat)) : Option Nat → List (Nat × Nat)
  | some b => (i, b) :: K
  | none => K
/-- In a region whose order is drawn: calm and appending, up to the first operation that writes into what is there. -/
def softV (P : Program) (A : FuncId → Ann) (rf : RF) (all : List Oper) (S0 : St) : Nat → List (Nat × Nat) → List Oper → St → Option St
  | i, K, [], S => endS all S0 i K S
  | i, K, o :: l, S => bif isH o.op then (endS all S0 i K S).bind (opsV P A rf all true (o :: l)) else (glazy P A rf all S o).bind fun q => softV P A rf all S0 (i + 1) (consK i K q.2) l q.1

/-! ### Code -/
inductive Ex where
  | normal | ret
  | exit (id : Nat)

def kindOf : List (Nat × Kind) → Nat → Option Kind
  | [], _ => none
  | (k, x) :: l, t => bif k == t then some x else kindOf l t

def canonX (t : Nat) (x : AV) : Option Kind → AV
  | some .v => x
  | some (.o _ _) => .own t
  | none => .undef
def canonVars (ks : List (Nat × Kind)) : List (Nat × AV) → List (Nat × AV)
  | [] => []
  | (t, x) :: l => (t, canonX t x (kindOf ks t)) :: canonVars ks l

def keepB (b : Nat) (h : List (Nat × Blk)) : Option Blk → Option Blk → Option (List (Nat × Blk))
  | none, some k => some ((b, k) :: h)
  | _, _ => none
def keepBlks (S : St) : List Nat → List (Nat × Blk) → Option (List (Nat × Blk))
  | [], h => some h
  | b :: l, h => andK (keepB b h (hlook h b) (hlook S.hp b)) (keepBlks S l)

def dedup : List Nat → List Nat
  | [] => []
  | x :: l => bif l.contains x then dedup l else x :: dedup l

def canonO (S : St) (t e : Nat) (fl : Bool) : AV → Option (Nat × Blk)
  | .nils => bif decide (t < 500000) then some (t, ⟨e, fl, false, [], true⟩) else none
  | .own b => andK (hlook S.hp b) fun k => bif k.e == e && k.fl == fl && !k.bx && decide (t < 500000) then some (t, k) else none
  | _ => none
def canonHp (S : St) : List (Nat × Kind) → Option (List (Nat × Blk) × List Nat)
  | [] => some ([], [])
  | (t, .v) :: l => (canonHp S l).map fun q => (q.1, namesV 6 S (S.get t) ++ q.2)
  | (t, .o e fl) :: l => andK (canonHp S l) fun q => (canonO S t e fl (S.get t)).map fun p => (p :: q.1, q.2)

def ownName : AV → List Nat
  | .own b => [b]
  | _ => []
def oNames (S : St) : List (Nat × Kind) → List Nat
  | [] => []
  | (_, .v) :: l => oNames S l
  | (t, .o _ _) :: l => ownName (S.get t) ++ oNames S l

def within : List Nat → List Nat → Bool
  | [], _ => true
  | x :: l, r => r.contains x && within l r
/-- What is kept leads only to what is kept. -/
def shutB (S : St) (r : List Nat) : List Nat → Bool
  | [] => true
  | b :: l => within (AV.names.namesL (boxXs (hlook S.hp b))) r && shutB S r l
def shutV (S : St) (r : List Nat) : List (Nat × Kind) → Bool
  | [] => true
  | (t, .v) :: l => within (S.get t).names r && shutV S r l
  | (_, .o _ _) :: l => shutV S r l
def keysOf : List (Nat × Kind) → List Nat
  | [] => []
  | (t, _) :: l => t :: keysOf l

def canonR (S : St) (ks : List (Nat × Kind)) (r : List Nat) (h : List (Nat × Blk)) : Option St :=
  bif shutB S r r && shutV S r ks then (keepBlks S r h).map fun h => ⟨canonVars ks S.vars, [], h⟩ else none
def canon (S : St) (ks : List (Nat × Kind)) : Option St :=
  andK (canonHp S ks) fun q => bif nodup (keysOf ks) && nodup (oNames S ks) && disjoint (oNames S ks) q.2 then canonR S ks (dedup q.2) q.1 else none

def keepOf : List (Nat × List (Nat × Kind)) → Nat → Option (List (Nat × Kind))
  | [], _ => none
  | (i, ks) :: l, id => bif i == id then some ks else keepOf l id

/-- At a loop's head: what some variables hold is sealed. -/
def seal1 (S : St) (t : Nat) : Option (AV × St) → St
  | some q => q.2.put t q.1
  | none => S
/-- .. and what a box holds. -/
def sealB2 (S : St) (b e n : Nat) (q : List AV × St) : Option Blk → St
  | some ⟨e', false, true, [_], true⟩ => bif e' == e && q.1.length == n then q.2.withHp (setl q.2.hp b ⟨e, false, true, [.agg q.1], true⟩) else S
  | _ => S
def sealB1 (S : St) (b e n : Nat) : Option (AV × St) → St
  | some (.agg ys, S') => sealB2 S b e n (ys, S') (hlook S'.hp b)
  | _ => S
def sealB (S : St) (b : Nat) : Option Blk → St
  | some ⟨e, false, true, [.agg xs], true⟩ => sealB1 S b e xs.length (sealV S (.agg xs))
  | _ => S
def sealBox (S : St) : AV → St
  | .ptr b 0 0 => sealB S b (hlook S.hp b)
  | _ => S
def sealL : List (Nat × Kind) → St → St
  | [], S => S
  | (t, .v) :: l, S => sealL l (seal1 S t (sealV S (S.get t)))
  | (t, .o _ _) :: l, S => sealL l (sealBox S (S.get t))
def sealK (S : St) : Option (List (Nat × Kind)) → St
  | some ts => sealL ts S
  | none => S
def canonS (kp : List (Nat × List (Nat × Kind))) (cur : Nat) (S : St) (ks : List (Nat × Kind)) : Option St := canon (sealK S (keepOf kp (3000000 + cur))) ks
/-- The regions that are run in the text's order alone are marked among the loops' blocks. -/
def totOf (kp : List (Nat × List (Nat × Kind))) (id : Nat) : Bool := (keepOf kp (2000000 + id)).isSome
/-- The regions that are run so are marked among the loops' blocks. -/
def softOf (kp : List (Nat × List (Nat × Kind))) (id : Nat) : Bool := (keepOf kp (1000000 + id)).isSome
def regV (P : Program) (A : FuncId → Ann) (rf : RF) (ops : List Oper) (d : Bool) (S : St) : Bool → Option St
  | true => softV P A rf ops S 0 [] ops S
  | false => opsV P A rf ops d ops S

def run (P : Program) (A : FuncId → Ann) (rf : RF) (kp : List (Nat × List (Nat × Kind))) : Nat → Nat → Code → St → Option (Ex × St)
  | 0, _, _, _ => none
  | n + 1, cur, c, S => match c with
    | .skip | .label _ => some (.normal, S)
    | .ret => some (.ret, S)
    | .exit id => some (.exit id, S)
    | .region id ops d => (regV P A rf ops.toList (d && !totOf kp id) ⟨S.vars, [], S.hp⟩ (d && !totOf kp id && softOf kp id)).map fun S => (.normal, S)
    | .seq a b => (run P A rf kp n cur a S).bind fun (e, S) => match e with
      | .normal => run P A rf kp n cur b S
      | e => some (e, S)
    | .cond c x y => (boolV (S.ev c)).bind fun b => if b then run P A rf kp n cur x S else run P A rf kp n cur y S
    | .block id c => (run P A rf kp n id c S).map fun (e, S) => match e with
      | .exit i => if i = id then (.normal, S) else (.exit i, S)
      | e => (e, S)
    | .loop c => (keepOf kp cur).bind fun ks => (canonS kp cur S ks).bind fun S => (run P A rf kp n cur c S).bind fun (e, S) => match e with
      | .normal => run P A rf kp n cur (.loop c) S
      | e => some (e, ⟨S.vars, [], S.hp⟩)
    | .scope c => run P A rf kp n cur c S
    | _ => none

def initL : Nat → List AV → List (Nat × AV) × List (Nat × Blk)
  | _, [] => ([], [])
  | i, x :: l => let (v, h, _) := recvV (500000 + i) x; let (vs, hs) := initL (i + 1) l; ((i, v) :: vs, h ++ hs)

def resV (P : Program) (S : St) : ResultVar → Option AV
  | .tmp t => some (S.get t)
  | .cell a t => loadV P S t (S.get a)

def oneOf : List AV → AV
  | [x] => x
  | l => .tup l

/-- The blocks that came in lent, in their order; which for good. -/
def lentIds : Nat → List AV → List Nat
  | _, [] => []
  | i, x :: l => (recvV (500000 + i) x).2.1.map (·.1) ++ lentIds (i + 1) l
def isM : Mode → Bool
  | .m => true
  | _ => false
def lentFs : List Mode → List AV → List Bool
  | _, [] => []
  | ms, x :: l => (recvV 0 x).2.1.map (fun _ => isM (ms.headD .b)) ++ lentFs ms.tail l

def flOk (k : Blk) : Option Blk → Bool
  | some k0 => !k0.fl || k.fl
  | none => false
def outB (k : Blk) (k0 : Option Blk) : Option (List AV) := bif k.ok && (!k.bx || allClosed k.xs) && flOk k k0 then some k.xs else none
def outsV (h h0 : List (Nat × Blk)) : List Nat → List Bool → Option (List (List AV))
  | [], [] => some []
  | _ :: l, true :: fs => (outsV h h0 l fs).map ([] :: ·)
  | b :: l, false :: fs => andK (hlook h b) fun k => andK (outB k (hlook h0 b)) fun xs => (outsV h h0 l fs).map (xs :: ·)
  | _, _ => none

/-- The blocks lent that are to be given back. -/
def stayL : List Nat → List Bool → List Nat
  | b :: l, false :: fs => b :: stayL l fs
  | _ :: l, true :: fs => stayL l fs
  | _, _ => []
def finish1 (S : St) (h0 : List (Nat × Blk)) (ls : List Nat) (fs : List Bool) (p : AV × List Nat) : Option (AV × List (List AV)) :=
  bif nodup p.2 && disjoint p.2 (stayL ls fs) then (outsV S.hp h0 ls fs).map fun outs => (p.1, outs) else none
def finish0 (P : Program) (modes : List Mode) (rs : List ResultVar) (args : List AV) (S : St) : Option (AV × List (List AV)) :=
  andK (mapO (resV P S) rs) fun vs => andK (exportV S (oneOf vs)) fun p => finish1 S (initL 0 args).2 (lentIds 0 args) (lentFs modes args) p
/-- A box that is handed out: what it holds is sealed. -/
def sealRs : List ResultVar → St → St
  | [.tmp t], S => sealBox S (S.get t)
  | _, S => S
def finish (P : Program) (modes : List Mode) (rs : List ResultVar) (args : List AV) (S : St) : Option (AV × List (List AV)) := finish0 P modes rs args (sealRs rs S)
def endK (P : Program) (modes : List Mode) (rs : List ResultVar) (args : List AV) : Ex → St → Option (AV × List (List AV))
  | .exit _, _ => none
  | .normal, S => finish P modes rs args S
  | .ret, S => finish P modes rs args S

/-! ### What is asked of a function's text -/
def okOper (n : Nat) (o : Oper) : Bool := match o.dst with
  | some d => Nat.blt d n
  | none => true
/-- Operations that look at memory at most, and the calls and the makings that leave alone what is there. -/
def edges (ops : Array Oper) (i : Nat) : List Nat := match ops[i]? with
  | some o => (o.after.toList.filter (Region.binds .any)).map (·.on)
  | none => []
/-- What an operation looks at that another one of the region makes. -/
def looks (ops : Array Oper) (o : Oper) : List Nat :=
  (o.op.operands.toList.filterMap fun | .tmp t => some t | _ => none) ++ (match o.guard with
    | some g => ((ops[g.1]?).bind (·.dst)).toList
    | none => [])
def dstOf (ops : Array Oper) (i : Nat) : Option Nat := (ops[i]?).bind (·.dst)
def calmAt (e : Op → Bool) (ops : Array Oper) (i : Nat) : Bool := match ops[i]? with
  | some o => !e o.op
  | none => true
/-- Of each operation: its edges lead to earlier ones; what makes what it looks at is among them; it makes what no other makes; from the first that changes something on, each comes after all before it. -/
def okDrawAt (ops : Array Oper) (calm : Bool) (i : Nat) : Bool := match ops[i]? with
  | some o => (edges ops i).all (fun j => Nat.blt j i) &&
      (List.range ops.size).all (fun j => match dstOf ops j with
        | some t => (!(looks ops o).contains t || (edges ops i).contains j || (Nat.blt i j && (edges ops j).contains i)) && (j == i || !(o.dst == some t))
        | none => true) &&
      (calm || (List.range i).all fun j => (List.range (i + 1)).any fun m => Nat.blt j m && (edges ops m).contains j)
  | none => true
def okDraw (e : Op → Bool) (ops : Array Oper) : Bool := Region.noSelect ops && (List.range ops.size).all fun i => okDrawAt ops ((List.range (i + 1)).all (calmAt e ops)) i
/-- Operations that look at no memory's contents. -/
def intTy : Ty → Bool
  | .int _ => true
  | _ => false
def floatOp (P : Program) : Op → Bool
  | .convert s t _ => intTy (tyOf P s) && intTy (tyOf P t)
  | .move _ | .assign _ | .extract .. | .nilCheck _ | .binOp .. | .unOp .. | .fieldAddr .. | .indexAddr .. => true
  | _ => false
def isSt : Op → Bool
  | .store .. => true
  | _ => false
def floatAt (P : Program) (ops : Array Oper) (j : Nat) : Bool := match ops[j]? with
  | some o => floatOp P o.op
  | none => true
/-- Stores among operations that look at no memory: a store comes after all earlier ones but these; behind the first store there are only such. -/
def okFloatAt (P : Program) (ops : Array Oper) (all : List Oper) (i : Nat) : Bool := match ops[i]? with
  | some o => o.guard.isNone && (edges ops i).all (fun j => Nat.blt j i) &&
      (List.range ops.size).all (fun j => match dstOf ops j with
        | some t => (!(looks ops o).contains t || (edges ops i).contains j || (Nat.blt i j && (edges ops j).contains i)) && (j == i || !(o.dst == some t))
        | none => true) &&
      (!isE o.op || (isSt o.op && (List.range i).all fun j => floatAt P ops j || reach all 3 j i)) &&
      ((List.range i).all (calmAt isE ops) || isSt o.op || floatOp P o.op)
  | none => true
def okFloat (P : Program) (ops : Array Oper) : Bool := (List.range ops.size).all (okFloatAt P ops ops.toList)
/-- The first operation only hands on what a variable holds; it may be taken first. -/
def loneHead : Option Oper → Bool
  | some ⟨some _, .move (.tmp _), _, _, af, none⟩ => af.isEmpty
  | _ => false
def behind0 (i : Nat) (o : Oper) : Oper := bif i == 0 then o else { o with after := o.after.push ⟨0, .data⟩ }
def loneOps (ops : Array Oper) : Array Oper := (ops.toList.mapIdx behind0).toArray
def okLone (ops : Array Oper) : Bool := loneHead ops[0]? && Region.noSelect ops && Region.free .any ops (Array.replicate ops.size false) 0 && okDraw isE (loneOps ops)
def okReg1 (P : Program) (ops : Array Oper) : Bool → Bool
  | true => okDraw isH ops
  | false => okDraw isE ops || okFloat P ops || okLone ops
def okReg (P : Program) (ops : Array Oper) (soft : Bool) : Bool → Bool
  | true => okDraw (fun _ => true) ops
  | false => okReg1 P ops soft
def okCode (P : Program) (kp : List (Nat × List (Nat × Kind))) (n : Nat) : Code → Bool
  | .skip | .label _ | .ret | .exit _ => true
  | .region id ops d => ops.toList.all (okOper n) && (!d || okReg P ops (softOf kp id) (totOf kp id))
  | .seq a b | .cond _ a b => okCode P kp n a && okCode P kp n b
  | .block _ c | .loop c | .scope c => okCode P kp n c
  | _ => false
def okFn (P : Program) (kp : List (Nat × List (Nat × Kind))) (fn : Func) : Bool := !(fn.name == "runtime.NumGoroutine") && match fn.body with
  | some c => okCode P kp fn.ntmps c
  | none => false

def runF (P : Program) (A : FuncId → Ann) (prim : FuncId → Option (List AV → Option (AV × List (List AV)))) : Nat → RF
  | 0, _, _ => none
  | n + 1, f, args => match prim f with
    | some g => g args
    | none => match P.funcs[f]? with
      | some fn => match fn.body with
        | some c => bif okFn P (A f).keep fn && decide (args.length ≤ 1000) then let (vs, h) := initL 0 args
          (run P A (runF P A prim n) (A f).keep n 0 c ⟨vs ++ (A f).vs.map (·, AV.undef), [], h⟩).bind fun q => endK P (A f).modes fn.results.toList args q.1 q.2
          else none
        | none => none
      | none => none

end Go.Proofs.Ytfagpbelmaipkaa.Ev
