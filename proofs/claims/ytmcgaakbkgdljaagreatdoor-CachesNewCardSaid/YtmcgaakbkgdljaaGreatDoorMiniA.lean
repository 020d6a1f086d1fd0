/-
  An abstract machine for the translated code: values, heap, operations, evaluation with fuel. Plain definitions; nothing is claimed here.
-/
import GoSem.Core.Program
import GoSem.Core.View
namespace Go.Proofs.YtmcgaakbkgdljaaGreatDoor
namespace Mini

/-- Cells that hold no reference to the local heap. A string is the list of its bytes. -/
inductive D where
  | bool (b : Bool)
  | int (k : IntKind) (n : Int)
  | str (s : List Nat)
  | nilp
  | ip (cs : List D)
  | nils
  | sl (cs : List D) (len : Nat)
  | fn (f : FuncId) (first caps : List D)
  | nilf
  | nili
  | ifc
  | ifv (t : Nat) (g : Bool) (cs : List D)
  | nilm
  | nilch
  deriving Inhabited

/-- Cells: with references to the local heap. -/
inductive C where
  | d (x : D)
  | ptr (id gen off : Nat)
  | os (id gen off len sz : Nat) (cap : Option Nat)
  | fn (f : FuncId) (first caps : List C)
  | yld (id : Nat)
  | bt (id t : Nat)
  | mp (id : Nat)
  | ch (id : Nat)
  deriving Inhabited

inductive V where
  | c (x : C)
  | agg (cs : List C)
  | tup (vs : List V)
  | any
  deriving Inhabited

/-- Operands: a register, a result of this region (0: the latest), a value, a package-level variable. -/
inductive A where
  | r (j : Nat)
  | l (k : Nat)
  | v (x : V)
  | g (b : Nat)
  deriving Inhabited

inductive O where
  | mov (a : A)
  | pick (c a b : A)
  | bin (op : BinOp) (a b : A)
  | beq (neg : Bool) (a b : A)
  | isn (neg : Bool) (a : A)
  | eqa (neg : Bool) (n : Nat) (a b : A)
  | un (op : UnOp) (a : A)
  | cvi (k : IntKind) (a : A)
  | cvs (a : A)
  | s2b (a : A)
  | b2s (a : A)
  | new (zero : List D)
  | newb (t : Nat)
  | box (a : A)
  | pre
  | ini (n : Nat) (v : A)
  | apn (sz : Nat) (b : A)
  | bld (zero : List D) (parts : List (Nat × Nat × A))
  | bsl (len sz : Nat) (zero : List D) (parts : List (Nat × Nat × A))
  | ld (g : Bool) (n : Nat) (a : A)
  | fa (off : Nat) (a : A)
  | fld (g : Bool) (off n : Nat) (a : A)
  | ixp (len sz : Nat) (a i : A)
  | ixa (sz : Nat) (a i : A)
  | ixs (a i : A)
  | ixg (g : Bool) (len sz : Nat) (a i : A)
  | sls (a : A) (lo hi : Option A)
  | slc (sz : Nat) (a : A) (lo hi mx : Option A)
  | slp (len sz : Nat) (a : A) (lo hi mx : Option A)
  | mks (sz bytes : Nat) (zero : List D) (len cap : A)
  | ext (a : A) (i : Nat)
  | len (a : A)
  | lns (a : A)
  | cap (a : A)
  | mm (mx : Bool) (a b : A)
  | mkf (f : FuncId) (first caps : List A)
  | mki (a : A)
  | nlc (a : A)
  | vc (f : FuncId) (args : List A)
  | pc (f : FuncId) (args : List A)
  | st (n : Nat) (a v : A)
  | app (sz : Nat) (a b : A)
  | apb (a b : A)
  | cpy (sz : Nat) (a b : A)
  | hc (f : A) (args : List A)
  | bc (f : FuncId) (a : A) (args : List A)
  | pan
  | mkm
  | mpu (g : Bool) (ks : List Nat) (m k v : A)
  | lkp (ok : Bool) (zero : V) (g : Bool) (ks : List Nat) (m k : A)
  | mdl (g : Bool) (ks : List Nat) (m k : A)
  | lnm (a : A)
  | eqk (neg : Bool) (ks : List Nat) (a b : A)
  | isz (kd : Nat) (neg : Bool) (a : A)
  | mkt (t : Nat) (a : A)
  | tas (t n : Nat) (g ok : Bool) (zero : V) (a : A)
  | ivc (tbl : List (Nat × FuncId)) (a : A) (args : List A)
  | rgs (a : A)
  | nxs (a : A)
  | rgm (a : A)
  | ent (a : A)
  | clr (sz : Nat) (zero : List D) (a : A)
  | mkc (bytes : Nat) (a : A)
  deriving Inhabited

structure Gp where
  guard : Option (Nat × Bool)
  op : O
  deriving Inhabited

/-- An operation of a region that goes in the text's order, with the register that takes its result: on values; a send; a select of one receive, with a default. -/
inductive Cm where
  | op (o : O) (j : Nat)
  | snd (c x : A)
  | sel (c : A) (j : Nat) (zero : V)
  deriving Inhabited

inductive I where
  | skip
  | seq (a b : I)
  | reg (draw : Bool) (ops : List Gp) (exp : List (Nat × Nat)) (aps : List (A × A))
  | regk (draw : Bool) (ops : List Gp) (exp : List (Nat × Nat)) (ks : List Nat) (aps : List (A × A))
  | cond (c : A) (a b : I)
  | block (id : Nat) (b : I)
  | loop (js : Option (List Nat)) (b : I)
  | exit (id : Nat)
  | ret
  | rf (f : A) (ps : List Nat) (assign body : I)
  | nxm (it : A) (jt jb : Nat)
  | bad
  | keep (js : List Nat)
  | fresh (j : Nat) (off : Option Nat) (sz : Nat)
  | freshb (j off : Nat)
  | chain (xs : List Cm)
  | scope (b : I)
  deriving Inhabited

inductive Rv where
  | r (j : Nat)
  | cell (j n : Nat) (g : Bool)
  deriving Inhabited

structure Fn where
  np : Nat
  nr : Nat
  tm : List Nat
  res : List Rv
  body : I
  deriving Inhabited

/-- How a piece of code is left. -/
inductive Ex where
  | nrm
  | exit (id : Nat)
  | ret
  deriving Inhabited, DecidableEq

inductive Ob where
  | cells (cs : List C) (gen : Nat) (fz : Bool)
  | loop (ready : Bool) (pend : Option Ex) (regs : List V) (ps : List Nat) (assign body : I)
  | bld (s : List Nat)
  | dead
  | map (es : List (V × V)) (fz : Bool)
  | sit (s : List Nat) (pos : Nat)
  | mit (left : List (V × V)) (cur : Option (V × V))
  | chn (cap : Nat) (buf : List D)
  deriving Inhabited

abbrev Heap := List Ob

/-- Objects whose generation is no less hold bytes in a block of bytes. -/
def genK : Nat := 1000000
/-- The type uint8. -/
def u8T : Nat := 5

/-! ### Lists -/
def nth : List V → Nat → V
  | [], _ => .any
  | x :: _, 0 => x
  | _ :: xs, n + 1 => nth xs n

def put : List V → Nat → V → List V
  | [], _, _ => []
  | _ :: xs, 0, v => v :: xs
  | x :: xs, n + 1, v => x :: put xs n v

def ob? : Heap → Nat → Option Ob
  | [], _ => none
  | o :: _, 0 => some o
  | _ :: H, n + 1 => ob? H n

def setOb : Heap → Nat → Ob → Heap
  | [], _, _ => []
  | _ :: H, 0, o => o :: H
  | x :: H, n + 1, o => x :: setOb H n o

/-- Cells from 'off' on become 'new'. -/
def splice (cs : List C) (off : Nat) (new : List C) : List C := cs.take off ++ new ++ cs.drop (off + new.length)

def V.cells : V → Option (List C)
  | .c x => some [x]
  | .agg cs => some cs
  | _ => none

def V.one : V → Option C
  | .c x => some x
  | _ => none

/-- A value of n cells. -/
def ofCells (g : Bool) (n : Nat) (cs : List C) : Option V :=
  if cs.length = n then
    if g then some (.agg cs)
    else match cs with
      | [x] => some (.c x)
      | _ => none
  else none

/-! ### Reading through references -/
def mapO {α β : Type} (f : α → Option β) : List α → Option (List β)
  | [] => some []
  | x :: xs => match f x with
    | some y => match mapO f xs with
      | some ys => some (y :: ys)
      | none => none
    | none => none

/-- What a cell holds when the objects behind it are read out. -/
def deepC (H : Heap) : Nat → C → Option D
  | _, .d x => some x
  | k + 1, .ptr id gen off =>
    match ob? H id with
    | some (.cells cs g _) => if g = gen then (mapO (deepC H k) (cs.drop off)).map .ip else none
    | _ => none
  | k + 1, .os id gen off len sz _ =>
    match ob? H id with
    | some (.cells cs g _) => if g = gen then (if off + len * sz ≤ cs.length then (mapO (deepC H k) ((cs.drop off).take (len * sz))).map (.sl · len) else none) else none
    | _ => none
  | k + 1, .fn f first caps =>
    match mapO (deepC H k) first, mapO (deepC H k) caps with
    | some a, some b => some (.fn f a b)
    | _, _ => none
  | _, _ => none

def deepMax : Nat := 8

/-- The objects that are read out. -/
def reachC (H : Heap) : Nat → C → List Nat
  | _, .d _ => []
  | k + 1, .ptr id _ off =>
    match ob? H id with
    | some (.cells cs _ _) => id :: (cs.drop off).flatMap (reachC H k)
    | _ => []
  | k + 1, .os id _ off len sz _ =>
    match ob? H id with
    | some (.cells cs _ _) => id :: ((cs.drop off).take (len * sz)).flatMap (reachC H k)
    | _ => []
  | k + 1, .fn _ first caps => first.flatMap (reachC H k) ++ caps.flatMap (reachC H k)
  | _, _ => []
def reachV (H : Heap) : V → List Nat
  | .c x => reachC H deepMax x
  | .agg cs => cs.flatMap (reachC H deepMax)
  | _ => []
def fz1 (H : Heap) (id : Nat) : Heap :=
  match ob? H id with
  | some (.cells cs g _) => setOb H id (.cells cs g true)
  | _ => H
/-- The objects are written no more. -/
def freeze (H : Heap) (ids : List Nat) : Heap := ids.foldl fz1 H

def deepV1 (H : Heap) : V → Option V
  | .c x => (deepC H deepMax x).map fun y => .c (.d y)
  | .agg cs => (mapO (deepC H deepMax) cs).map fun ys => .agg (ys.map .d)
  | _ => none

def deepV (H : Heap) : V → Option V
  | .tup vs => (mapO (deepV1 H) vs).map .tup
  | v => deepV1 H v

def C.isD : C → Bool
  | .d _ => true
  | _ => false
def V.closed : V → Bool
  | .c x => x.isD
  | .agg cs => cs.all C.isD
  | _ => false

/-- No reference to memory at all. -/
def D.flat : D → Bool
  | .ip _ => false
  | .sl cs _ => cs.isEmpty
  | .fn _ a b => a.isEmpty && b.isEmpty
  | .ifv _ _ cs => cs.isEmpty
  | _ => true
def C.flat : C → Bool
  | .d x => x.flat
  | _ => false
def V.flat1 : V → Bool
  | .c x => x.flat
  | .agg cs => cs.all C.flat
  | _ => false
def V.flat : V → Bool
  | .tup vs => vs.all V.flat1
  | v => v.flat1

mutual
/-- The ids in a value lie below n. -/
def C.under (n : Nat) : C → Bool
  | .d _ => true
  | .ptr id _ _ => decide (id < n)
  | .os id _ _ _ _ _ => decide (id < n)
  | .fn _ a b => undersC n a && undersC n b
  | .yld id => decide (id < n)
  | .bt id _ => decide (id < n)
  | .mp id => decide (id < n)
  | .ch id => decide (id < n)
def undersC (n : Nat) : List C → Bool
  | [] => true
  | c :: cs => c.under n && undersC n cs
end
def V.under (n : Nat) : V → Bool
  | .c x => x.under n
  | .agg cs => undersC n cs
  | .tup vs => vs.isEmpty
  | .any => true
def Ob.under (n : Nat) : Ob → Bool
  | .cells cs _ _ => undersC n cs
  | .loop _ _ regs _ _ _ => regs.all (V.under n)
  | .bld _ => true
  | .dead => true
  | .map es _ => es.all fun e => e.1.under n && e.2.under n
  | .sit _ _ => true
  | .mit l c => (l.all fun e => e.1.under n && e.2.under n) && (c.toList.all fun e => e.1.under n && e.2.under n)
  | .chn _ _ => true

/-! ### Operations on values -/
def bits (k : IntKind) (f : BitVec k.bits → BitVec k.bits → BitVec k.bits) (a b : Int) : Int := k.wrap (f (BitVec.ofInt k.bits a) (BitVec.ofInt k.bits b)).toNat

def strLess : List Nat → List Nat → Bool
  | _, [] => false
  | [], _ :: _ => true
  | a :: x, b :: y => decide (a < b) || (a == b && strLess x y)

def binInt (op : BinOp) (k : IntKind) (a b : Int) : Option D :=
  match op with
  | .add => some (.int k (k.wrap (a + b)))
  | .sub => some (.int k (k.wrap (a - b)))
  | .mul => some (.int k (k.wrap (a * b)))
  | .quo => if b = 0 then none else some (.int k (k.wrap (a.tdiv b)))
  | .rem => if b = 0 then none else some (.int k (a.tmod b))
  | .and => some (.int k (bits k (· &&& ·) a b))
  | .or => some (.int k (bits k (· ||| ·) a b))
  | .xor => some (.int k (bits k (· ^^^ ·) a b))
  | .andNot => some (.int k (bits k (fun x y => x &&& ~~~y) a b))
  | .eql => some (.bool (a == b))
  | .neq => some (.bool (a != b))
  | .lss => some (.bool (decide (a < b)))
  | .leq => some (.bool (decide (a ≤ b)))
  | .gtr => some (.bool (decide (a > b)))
  | .geq => some (.bool (decide (a ≥ b)))
  | _ => none

def binStr (op : BinOp) (a b : List Nat) : Option D :=
  match op with
  | .add => if a.length + b.length ≤ 1073741824 then some (.str (a ++ b)) else none
  | .eql => some (.bool (a == b))
  | .neq => some (.bool (!(a == b)))
  | .lss => some (.bool (strLess a b))
  | .leq => some (.bool (strLess a b || a == b))
  | .gtr => some (.bool (!(strLess a b || a == b)))
  | .geq => some (.bool (!(strLess a b)))
  | _ => none

def bin (op : BinOp) (x y : C) : Option D :=
  match op, x, y with
  | .shl, .d (.int k a), .d (.int _ b) => if b < 0 then none else some (.int k (k.wrap (a * 2 ^ (min b.toNat k.bits))))
  | .shr, .d (.int k a), .d (.int _ b) => if b < 0 then none else some (.int k (a.fdiv (2 ^ (min b.toNat k.bits))))
  | op, .d (.int k a), .d (.int k' b) => if k = k' then binInt op k a b else none
  | op, .d (.str a), .d (.str b) => binStr op a b
  | _, _, _ => none

/-- Equality of two rows of integers. -/
def eqInts : List C → List C → Option Bool
  | [], [] => some true
  | .d (.int k a) :: xs, .d (.int k' b) :: ys =>
    if k = k' then (match eqInts xs ys with
      | some r => some (a == b && r)
      | none => none) else none
  | _, _ => none

/-- Two cells: integers of one kind, bools, strings. -/
def eqCell : C → C → Option Bool
  | .d (.int k a), .d (.int k' b) => if k = k' then some (a == b) else none
  | .d (.bool a), .d (.bool b) => some (a == b)
  | .d (.str a), .d (.str b) => some (a == b)
  | _, _ => none
def eqK : List C → List C → Option Bool
  | [], [] => some true
  | x :: xs, y :: ys => match eqCell x y with
    | some r => match eqK xs ys with
      | some r' => some (r && r')
      | none => none
    | none => none
  | _, _ => none
def isKind : Nat → C → Bool
  | 0, .d (.int _ _) => true
  | 1, .d (.bool _) => true
  | 2, .d (.str _) => true
  | _, _ => false
def hasKinds : List Nat → List C → Bool
  | [], [] => true
  | k :: ks, c :: cs => isKind k c && hasKinds ks cs
  | _, _ => false
/-- A key of such cells. -/
def keyFit (g : Bool) (ks : List Nat) : V → Bool
  | .c x => !g && hasKinds ks [x]
  | .agg cs => g && hasKinds ks cs
  | _ => false

/-- Is it nil? 0 a pointer, 1 a function, 2 a map, 3 a slice, 4 a channel. -/
def isZ (kd : Nat) (v : V) : Option Bool :=
  match kd, v with
  | 0, .c (.d .nilp) => some true
  | 0, .c (.d (.ip _)) => some false
  | 0, .c (.ptr _ _ _) => some false
  | 1, .c (.d .nilf) => some true
  | 1, .c (.d (.fn _ _ _)) => some false
  | 1, .c (.fn _ _ _) => some false
  | 2, .c (.d .nilm) => some true
  | 2, .c (.mp _) => some false
  | 3, .c (.d .nils) => some true
  | 3, .c (.d (.sl (_ :: _) _)) => some false
  | 3, .c (.os _ _ _ (_ + 1) _ _) => some false
  | 4, .c (.d .nilch) => some true
  | 4, .c (.ch _) => some false
  | _, _ => none
def un (op : UnOp) (x : C) : Option D :=
  match op, x with
  | .neg, .d (.int k n) => some (.int k (k.wrap (0 - n)))
  | .xor, .d (.int k n) => some (.int k (bits k (· ^^^ ·) (if k.signed then -1 else k.max) n))
  | .not, .d (.bool b) => some (.bool (!b))
  | _, _ => none

def asInt : V → Option Int
  | .c (.d (.int _ n)) => some n
  | _ => none
/-- An int that is no less than 0. -/
def asNat (v : V) : Option Nat :=
  match asInt v with
  | some n => if 0 ≤ n then some n.toNat else none
  | none => none
def optNat (d : Nat) : Option V → Option Nat
  | none => some d
  | some v => asNat v

def byteOf : C → Option Nat
  | .d (.int .u8 n) => some (n.toNat % 256)
  | _ => none
def bytesOf (cs : List C) : Option (List Nat) := mapO byteOf cs
def ofBytes (s : List Nat) : List C := s.map fun b => .d (.int .u8 (Int.ofNat b))

/-- Parts laid over the zero value. -/
def lay (cs : List C) : List (Nat × Nat × V) → Option (List C)
  | [] => some cs
  | (off, n, v) :: rest =>
    match v.cells with
    | some new => if new.length = n ∧ off + n ≤ cs.length then lay (splice cs off new) rest else none
    | none => none

def rep (zero : List C) : Nat → List C
  | 0 => []
  | n + 1 => zero ++ rep zero n

/-- The cells of a slice (or a string): how many elements, their cells. -/
def elems (H : Heap) (sz : Nat) : V → Option (Nat × List C)
  | .c (.d .nils) => some (0, [])
  | .c (.d (.sl cs len)) => if cs.length = len * sz then some (len, cs.map .d) else none
  | .c (.d (.str s)) => if sz = 1 then some (s.length, ofBytes s) else none
  | .c (.os id gen off len sz' _) =>
    match ob? H id with
    | some (.cells cs g _) => if g = gen ∧ sz' = sz ∧ off + len * sz ≤ cs.length then some (len, (cs.drop off).take (len * sz)) else none
    | _ => none
  | _ => none

structure Env where
  call : C → List V → Heap → Option (V × Heap)
  vcall : FuncId → List V → Option V
  prim : FuncId → List V → Option V
  bprim : FuncId → List Nat → List V → Option (V × List Nat)
  glob : Nat → Option (List D)

def look (E : Env) (regs ts : List V) : A → V
  | .r j => nth regs j
  | .l k => nth ts k
  | .v x => x
  | .g b => match E.glob b with
    | some cs => .c (.d (.ip cs))
    | none => .any

/-- Operations that write nothing: the result, new objects. -/
def stepP (lk : A → V) (H : Heap) : O → Option (V × List Ob)
  | .mov a => some (lk a, [])
  | .pick c a b =>
    match lk c with
    | .c (.d (.bool t)) => some (if t then lk a else lk b, [])
    | _ => none
  | .bin op a b =>
    match lk a, lk b with
    | .c x, .c y => (bin op x y).map fun z => (.c (.d z), [])
    | _, _ => none
  | .beq neg a b =>
    match lk a, lk b with
    | .c (.d (.bool x)), .c (.d (.bool y)) => some (.c (.d (.bool (neg ^^ (x == y)))), [])
    | _, _ => none
  | .isn neg a =>
    match lk a with
    | .c (.d .nili) => some (.c (.d (.bool (!neg))), [])
    | .c (.d .ifc) => some (.c (.d (.bool neg)), [])
    | .c (.d (.ifv _ _ _)) => some (.c (.d (.bool neg)), [])
    | _ => none
  | .isz kd neg a => (isZ kd (lk a)).map fun z => (.c (.d (.bool (neg ^^ z))), [])
  | .eqk neg ks a b =>
    match lk a, lk b with
    | .agg x, .agg y => if hasKinds ks x && hasKinds ks y then (eqK x y).map fun z => (.c (.d (.bool (neg ^^ z))), []) else none
    | _, _ => none
  | .mkt t a =>
    match lk a with
    | .c (.d x) => some (.c (.d (.ifv t false [x])), [])
    | .agg cs => (mapO (fun c => match c with | .d x => some x | _ => none) cs).map fun ds => (.c (.d (.ifv t true ds)), [])
    | _ => none
  | .tas t n g ok zero a =>
    match lk a with
    | .c (.d (.ifv t' g' ds)) =>
      if t' = t then
        if g' = g ∧ ds.length = n then (ofCells g n (ds.map .d)).map fun v => (if ok then .tup [v, .c (.d (.bool true))] else v, []) else none
      else if ok then some (.tup [zero, .c (.d (.bool false))], []) else none
    | .c (.d .nili) => if ok then some (.tup [zero, .c (.d (.bool false))], []) else none
    | _ => none
  | .eqa neg n a b =>
    match lk a, lk b with
    | .agg x, .agg y => if x.length = n then (eqInts x y).map fun z => (.c (.d (.bool (neg ^^ z))), []) else none
    | _, _ => none
  | .un op a =>
    match lk a with
    | .c x => (un op x).map fun z => (.c (.d z), [])
    | _ => none
  | .cvi k a =>
    match lk a with
    | .c (.d (.int _ n)) => some (.c (.d (.int k (k.wrap n))), [])
    | _ => none
  | .cvs a =>
    match lk a with
    | .c (.d (.str s)) => some (.c (.d (.str s)), [])
    | _ => none
  | .s2b a =>
    match lk a with
    | .c (.d (.str s)) => some (.c (.os H.length 0 0 s.length 1 none), [.cells (ofBytes s) 0 false])
    | _ => none
  | .b2s a =>
    match lk a with
    | .c (.d (.str _)) => none
    | _ => match elems H 1 (lk a) with
      | some (_, cs) => (bytesOf cs).map fun s => (.c (.d (.str s)), [])
      | none => none
  | .mkc bytes a =>
    match asNat (lk a) with
    | some n => if n ≤ 1073741824 ∧ bytes * n ≤ 1073741824 then some (.c (.ch H.length), [.chn n []]) else none
    | none => none
  | .new zero => some (.c (.ptr H.length 0 0), [.cells (zero.map .d) 0 false])
  | .newb t => some (.c (.ptr H.length 0 0), [.cells [.bt H.length t, .d .nils] 0 false])
  | .box a =>
    match (lk a).cells with
    | some cs => some (.c (.ptr H.length 0 0), [.cells cs 0 false])
    | none => none
  | .pre => some (.any, [])
  | .ini n a =>
    match (lk a).cells with
    | some cs => if cs.length = n then some (.c (.ptr H.length 0 0), [.cells cs 0 false]) else none
    | none => none
  | .apn sz b =>
    match elems H sz (lk b) with
    | some (m, new) => if m = 0 then some (.c (.d .nils), []) else if m ≤ 1073741824 then some (.c (.os H.length 0 0 m sz none), [.cells new 0 false]) else none
    | none => none
  | .bld zero parts => (lay (zero.map .d) (parts.map fun (i, n, a) => (i, n, lk a))).map fun cs => (.agg cs, [])
  | .bsl len sz zero parts =>
    (lay (rep (zero.map .d) len) (parts.map fun (i, n, a) => (i, n, lk a))).map fun cs => (.c (.os H.length 0 0 len sz (some len)), [.cells cs 0 false])
  | .ld g n a =>
    match lk a with
    | .c (.ptr id gen off) =>
      match ob? H id with
      | some (.cells cs g' _) => if g' = gen then (ofCells g n ((cs.drop off).take n)).map fun v => (v, []) else none
      | _ => none
    | .c (.d (.ip cs)) => (ofCells g n ((cs.take n).map .d)).map fun v => (v, [])
    | _ => none
  | .fa off a =>
    match lk a with
    | .c (.ptr id gen o) => some (.c (.ptr id gen (o + off)), [])
    | .c (.d (.ip cs)) => if off < cs.length then some (.c (.d (.ip (cs.drop off))), []) else none
    | _ => none
  | .fld g off n a =>
    match lk a with
    | .agg cs => (ofCells g n ((cs.drop off).take n)).map fun v => (v, [])
    | _ => none
  | .ixp len sz a i =>
    match asNat (lk i) with
    | some k =>
      if k < len then
        match lk a with
        | .c (.ptr id gen o) => some (.c (.ptr id gen (o + k * sz)), [])
        | .c (.d (.ip cs)) => if k * sz < cs.length then some (.c (.d (.ip (cs.drop (k * sz)))), []) else none
        | _ => none
      else none
    | none => none
  | .ixa sz a i =>
    match asNat (lk i) with
    | some k =>
      match lk a with
      | .c (.d (.sl cs len)) => if k < len ∧ k * sz < cs.length then some (.c (.d (.ip (cs.drop (k * sz)))), []) else none
      | .c (.os id gen off len sz' _) => if sz' = sz ∧ k < len then some (.c (.ptr id gen (off + k * sz)), []) else none
      | _ => none
    | none => none
  | .ixs a i =>
    match lk a, asNat (lk i) with
    | .c (.d (.str s)), some k =>
      match s[k]? with
      | some b => some (.c (.d (.int .u8 (Int.ofNat b))), [])
      | none => none
    | _, _ => none
  | .ixg g len sz a i =>
    match lk a, asNat (lk i) with
    | .agg cs, some k => if k < len then (ofCells g sz ((cs.drop (k * sz)).take sz)).map fun v => (v, []) else none
    | _, _ => none
  | .sls a lo hi =>
    match lk a with
    | .c (.d (.str s)) =>
      match optNat s.length (hi.map lk), optNat 0 (lo.map lk) with
      | some h, some l => if l ≤ h ∧ h ≤ s.length then some (.c (.d (.str ((s.take h).drop l))), []) else none
      | _, _ => none
    | _ => none
  | .slc sz a lo hi mx =>
    match lk a with
    | .c (.d .nils) =>
      match optNat 0 (hi.map lk), optNat 0 (lo.map lk), optNat 0 (mx.map lk) with
      | some 0, some 0, some 0 => some (.c (.d .nils), [])
      | _, _, _ => none
    | .c (.d (.sl cs len)) =>
      match optNat len (hi.map lk), optNat 0 (lo.map lk), optNat len (mx.map lk) with
      | some h, some l, some m => if l ≤ h ∧ h ≤ m ∧ m ≤ len ∧ cs.length = len * sz then some (.c (.d (.sl ((cs.drop (l * sz)).take ((h - l) * sz)) (h - l))), []) else none
      | _, _, _ => none
    | .c (.os id gen off len sz' cap) =>
      match optNat len (hi.map lk), optNat 0 (lo.map lk) with
      | some h, some l =>
        if sz' = sz ∧ l ≤ h ∧ h ≤ len then
          match mx with
          | none => some (.c (.os id gen (off + l * sz) (h - l) sz (cap.map (· - l))), [])
          | some mx =>
            match asNat (lk mx) with
            | some m => if h ≤ m ∧ m ≤ cap.getD len then some (.c (.os id gen (off + l * sz) (h - l) sz (some (m - l))), []) else none
            | none => none
        else none
      | _, _ => none
    | _ => none
  | .slp len sz a lo hi mx =>
    match optNat len (hi.map lk), optNat 0 (lo.map lk), optNat len (mx.map lk) with
    | some h, some l, some m =>
      if l ≤ h ∧ h ≤ m ∧ m ≤ len then
        match lk a with
        | .c (.ptr id gen off) =>
          match ob? H id with
          | some (.cells cs g _) => if g = gen ∧ off + len * sz ≤ cs.length then some (.c (.os id gen (off + l * sz) (h - l) sz (some (m - l))), []) else none
          | _ => none
        | .c (.d (.ip cs)) => if len * sz ≤ cs.length then some (.c (.d (.sl ((cs.drop (l * sz)).take ((h - l) * sz)) (h - l))), []) else none
        | _ => none
      else none
    | _, _, _ => none
  | .mks sz bytes zero len cap =>
    match asNat (lk len), asNat (lk cap) with
    | some l, some c => if l ≤ c ∧ c * bytes ≤ 1099511627776 ∧ c ≤ 1099511627776 then some (.c (.os H.length 0 0 l sz (some c)), [.cells (rep (zero.map .d) l) 0 false]) else none
    | _, _ => none
  | .ext a i =>
    match lk a with
    | .tup vs => (vs[i]?).map fun v => (v, [])
    | _ => none
  | .len a =>
    match lk a with
    | .c (.d .nils) => some (.c (.d (.int .i64 0)), [])
    | .c (.d (.sl _ n)) => some (.c (.d (.int .i64 (Int.ofNat n))), [])
    | .c (.os _ _ _ n _ _) => some (.c (.d (.int .i64 (Int.ofNat n))), [])
    | _ => none
  | .lns a =>
    match lk a with
    | .c (.d (.str s)) => some (.c (.d (.int .i64 (Int.ofNat s.length))), [])
    | _ => none
  | .cap a =>
    match lk a with
    | .c (.d .nils) => some (.c (.d (.int .i64 0)), [])
    | .c (.os _ _ _ _ _ (some c)) => some (.c (.d (.int .i64 (Int.ofNat c))), [])
    | _ => none
  | .mm mx a b =>
    match lk a, lk b with
    | .c (.d (.int k x)), .c (.d (.int k' y)) => if k = k' then some (.c (.d (.int k (if mx then (if y > x then y else x) else (if y < x then y else x)))), []) else none
    | _, _ => none
  | .mkf f first caps =>
    match mapO (fun a => (lk a).one) first, mapO (fun a => (lk a).one) caps with
    | some xs, some ys => some (.c (.fn f xs ys), [])
    | _, _ => none
  | .mki a =>
    match lk a with
    | .c _ => some (.c (.d .ifc), [])
    | _ => none
  | .nlc a =>
    match lk a with
    | .c (.ptr id gen off) => some (.c (.ptr id gen off), [])
    | .c (.d (.ip cs)) => some (.c (.d (.ip cs)), [])
    | _ => none
  | _ => none

/-- Two keys. -/
def eqKey : V → V → Option Bool
  | .c x, .c y => eqCell x y
  | .agg x, .agg y => eqK x y
  | _, _ => none
def ltCells : List C → List C → Bool
  | .d (.int _ a) :: xs, .d (.int _ b) :: ys => decide (a < b) || (a == b && ltCells xs ys)
  | .d (.str a) :: xs, .d (.str b) :: ys => strLess a b || (a == b && ltCells xs ys)
  | .d (.bool a) :: xs, .d (.bool b) :: ys => (!a && b) || (a == b && ltCells xs ys)
  | _, _ => false
/-- An order of keys: the entries lie in it. -/
def ltKey : V → V → Bool
  | .c x, .c y => ltCells [x] [y]
  | .agg x, .agg y => ltCells x y
  | _, _ => false
/-- The entry of a key; every key must be of its kind. -/
def lookM (k : V) : List (V × V) → Option (Option V)
  | [] => some none
  | (k', v) :: es => match eqKey k k', lookM k es with
    | some true, some _ => some (some v)
    | some false, some r => some r
    | _, _ => none
def insM (k v : V) : List (V × V) → List (V × V)
  | [] => [(k, v)]
  | e :: es => if ltKey k e.1 then (k, v) :: e :: es else e :: insM k v es
def repM (k v : V) : List (V × V) → List (V × V)
  | [] => []
  | e :: es => if eqKey k e.1 = some true then (k, v) :: es else e :: repM k v es
def setM (k v : V) (es : List (V × V)) : Option (List (V × V)) :=
  match lookM k es with
  | some none => some (insM k v es)
  | some (some _) => some (repM k v es)
  | none => none
def remM (k : V) : List (V × V) → List (V × V)
  | [] => []
  | e :: es => if eqKey k e.1 = some true then es else e :: remM k es
def delM (k : V) (es : List (V × V)) : Option (List (V × V)) :=
  match lookM k es with
  | some none => some es
  | some (some _) => some (remM k es)
  | none => none
/-- The character at the beginning of bytes, and how many bytes it has. -/
def runeAt (s : List Nat) : Nat × Nat :=
  let at' (k : Nat) : Nat := s.getD k 0
  let cont (k : Nat) : Bool := decide (k < s.length) && at' k / 64 == 2
  let ok (c : Nat) : Bool := decide (c < 55296) || (decide (57344 ≤ c) && decide (c ≤ 1114111))
  let b0 := at' 0
  if b0 < 128 then (b0, 1)
  else if b0 / 32 == 6 && cont 1 then
    let c := (b0 % 32) * 64 + at' 1 % 64
    if c ≥ 128 then (c, 2) else (65533, 1)
  else if b0 / 16 == 14 && cont 1 && cont 2 then
    let c := (b0 % 16) * 4096 + (at' 1 % 64) * 64 + at' 2 % 64
    if c ≥ 2048 && ok c then (c, 3) else (65533, 1)
  else if b0 / 8 == 30 && cont 1 && cont 2 && cont 3 then
    let c := (b0 % 8) * 262144 + (at' 1 % 64) * 4096 + (at' 2 % 64) * 64 + at' 3 % 64
    if c ≥ 65536 && ok c then (c, 4) else (65533, 1)
  else (65533, 1)

/-- Operations that write. -/
def stepE (E : Env) (lk : A → V) (H : Heap) : O → Option (V × Heap)
  | .st n a v =>
    match lk a, (lk v).cells with
    | .c (.ptr id gen off), some new =>
      match ob? H id with
      | some (.cells cs g false) => if g = gen ∧ new.length = n ∧ off + n ≤ cs.length then some (.any, setOb H id (.cells (splice cs off new) g false)) else none
      | _ => none
    | _, _ => none
  | .app sz a b =>
    match elems H sz (lk b) with
    | none => none
    | some (m, new) =>
      match lk a with
      | .c (.d .nils) => if m = 0 then some (.c (.d .nils), H) else if m ≤ 1073741824 then some (.c (.os H.length 0 0 m sz none), H ++ [.cells new 0 false]) else none
      | .c (.d (.sl cs len)) => if m = 0 then some (.c (.d (.sl cs len)), H) else none
      | .c (.os id gen off len sz' cap) =>
        match ob? H id with
        | some (.cells cs g fz) =>
          if m = 0 ∧ g = gen then some (.c (.os id gen off len sz' cap), H) else
          if g = gen ∧ sz' = sz ∧ off + len * sz ≤ cs.length ∧ len + m ≤ 1073741824 then
            match cap with
            | some c =>
              if len + m ≤ c then if fz then none else some (.c (.os id gen off (len + m) sz (some c)), setOb H id (.cells (splice cs (off + len * sz) new) g false))
              else some (.c (.os H.length 0 0 (len + m) sz none), H ++ [.cells ((cs.drop off).take (len * sz) ++ new) 0 false])
            | none => if fz then none else if g + 1 < genK then some (.c (.os id (g + 1) 0 (len + m) sz none), setOb H id (.cells ((cs.drop off).take (len * sz) ++ new) (g + 1) false)) else none
          else none
        | _ => none
      | _ => none
  | .apb a b =>
    match elems H 1 (lk b) with
    | none => none
    | some (m, new) =>
      match lk a with
      | .c (.os id gen off len sz' none) =>
        match ob? H id with
        | some (.cells cs g fz) =>
          if m = 0 ∧ g = gen then some (.c (.os id gen off len sz' none), H) else
          if g = gen ∧ sz' = 1 ∧ off + len * 1 ≤ cs.length ∧ len + m ≤ 1073741824 then
            if fz then none else if genK ≤ g ∧ off = 0 then some (.c (.os id (g + 1) 0 (len + m) 1 none), setOb H id (.cells ((cs.drop off).take (len * 1) ++ new) (g + 1) false)) else none
          else none
        | _ => none
      | _ => none
  | .cpy sz a b =>
    match elems H sz (lk b) with
    | none => none
    | some (m, new) =>
      match lk a with
      | .c (.d .nils) => some (.c (.d (.int .i64 0)), H)
      | .c (.os id gen off len sz' _) =>
        match ob? H id with
        | some (.cells cs g false) =>
          if g = gen ∧ sz' = sz ∧ off + len * sz ≤ cs.length then
            some (.c (.d (.int .i64 (Int.ofNat (min m len)))), setOb H id (.cells (splice cs off (new.take (min m len * sz))) g false))
          else none
        | _ => none
      | _ => none
  | .hc f args =>
    match lk f with
    | .c x => E.call x (args.map lk) H
    | _ => none
  | .bc f a args =>
    match lk a, mapO (fun a => deepV1 H (lk a)) args with
    | .c (.ptr id 0 0), some vs =>
      match ob? H id with
      | some (.bld s) => (E.bprim f s vs).map fun (r, s') => (r, setOb H id (.bld s'))
      | _ => none
    | _, _ => none
  | .ivc tbl a args =>
    match lk a with
    | .c (.d (.ifv t g ds)) => match tbl.lookup t, ofCells g ds.length (ds.map .d) with
      | some f, some x => E.call (.d (.fn f [] [])) (x :: args.map lk) H
      | _, _ => none
    | _ => none
  | .mkm => some (.c (.mp H.length), H ++ [.map [] false])
  | .mpu g ks m k v =>
    match lk m with
    | .c (.mp id) => match ob? H id with
      | some (.map es false) => if keyFit g ks (lk k) && (lk v).cells.isSome then (setM (lk k) (lk v) es).map fun es' => (.any, setOb H id (.map es' false)) else none
      | _ => none
    | _ => none
  | .lkp ok zero g ks m k =>
    match lk m with
    | .c (.mp id) => match ob? H id with
      | some (.map es _) => if keyFit g ks (lk k) then (lookM (lk k) es).map fun r => (if ok then .tup [r.getD zero, .c (.d (.bool r.isSome))] else r.getD zero, H) else none
      | _ => none
    | .c (.d .nilm) => if keyFit g ks (lk k) then some (if ok then .tup [zero, .c (.d (.bool false))] else zero, H) else none
    | _ => none
  | .mdl g ks m k =>
    match lk m with
    | .c (.mp id) => match ob? H id with
      | some (.map es false) => if keyFit g ks (lk k) then (delM (lk k) es).map fun es' => (.tup [], setOb H id (.map es' false)) else none
      | _ => none
    | _ => none
  | .rgs a =>
    match lk a with
    | .c (.d (.str s)) => some (.c (.ptr H.length 0 0), H ++ [.sit s 0])
    | _ => none
  | .rgm a =>
    match lk a with
    | .c (.mp id) => match ob? H id with
      | some (.map es _) => some (.c (.ptr H.length 0 0), setOb H id (.map es true) ++ [.mit es none])
      | _ => none
    | .c (.d .nilm) => some (.c (.ptr H.length 0 0), H ++ [.mit [] none])
    | _ => none
  | .ent a =>
    match lk a with
    | .c (.ptr id 0 0) => match ob? H id with
      | some (.mit _ (some (k, v))) => some (.tup [k, v], H)
      | _ => none
    | _ => none
  | .clr sz zero a =>
    match lk a with
    | .c (.d .nils) => some (.tup [], H)
    | .c (.os id gen off len sz' _) =>
      match ob? H id with
      | some (.cells cs g false) => if g = gen ∧ sz' = sz ∧ off + len * sz ≤ cs.length then some (.tup [], setOb H id (.cells (splice cs off (rep (zero.map .d) len)) g false)) else none
      | _ => none
    | _ => none
  | .nxs a =>
    match lk a with
    | .c (.ptr id 0 0) => match ob? H id with
      | some (.sit s pos) => if pos < s.length then some (.tup [.c (.d (.bool true)), .c (.d (.int .i64 (Int.ofNat pos))), .c (.d (.int .i32 (Int.ofNat (runeAt (s.drop pos)).1)))], setOb H id (.sit s (pos + (runeAt (s.drop pos)).2))) else some (.tup [.c (.d (.bool false))], H)
      | _ => none
    | _ => none
  | .lnm a =>
    match lk a with
    | .c (.mp id) => match ob? H id with
      | some (.map es _) => some (.c (.d (.int .i64 (Int.ofNat es.length))), H)
      | _ => none
    | .c (.d .nilm) => some (.c (.d (.int .i64 0)), H)
    | _ => none
  | _ => none

def O.eff : O → Bool
  | .st .. | .app .. | .apb .. | .cpy .. | .hc .. | .bc .. | .pan | .mkm | .mpu .. | .lkp .. | .mdl .. | .lnm .. | .rgs .. | .nxs .. | .rgm .. | .ent .. | .clr .. | .ivc .. => true
  | _ => false

/-- A call by value: the arguments are read out. Where the result may share memory with them, what was read is written no more. -/
def byValue (f : List V → Option V) (lk : A → V) (H : Heap) (args : List A) : Option (V × Heap) :=
  match mapO (fun a => deepV1 H (lk a)) args with
  | some vs =>
    match f vs with
    | some r => some (r, if r.flat then H else freeze H (args.flatMap fun a => reachV H (lk a)))
    | none => none
  | none => none

def step (E : Env) (lk : A → V) (H : Heap) (o : O) : Option (V × Heap) :=
  match o with
  | .vc f args => byValue (E.vcall f) lk H args
  | .pc f args => byValue (E.prim f) lk H args
  | o => if o.eff then stepE E lk H o else (stepP lk H o).map fun (v, n) => (v, H ++ n)

/-- Is the operation carried out? -/
def wants (ts : List V) : Option (Nat × Bool) → Option Bool
  | none => some true
  | some (k, b) => match nth ts k with
    | .c (.d (.bool t)) => some (t == b)
    | .tup [] => some false
    | _ => none

def runOps (E : Env) (regs : List V)  : List Gp → List V → Heap → Option (List V × Heap)
  | [], ts, H => some (ts, H)
  | p :: ps, ts, H =>
    match wants ts p.guard with
    | none => none
    | some false => runOps E regs ps (.tup [] :: ts) H
    | some true =>
      match step E (look E regs ts) H p.op with
      | none => none
      | some (v, H') => runOps E regs ps (v :: ts) H'

/-- Two places in different objects. -/
def apart : V → V → Bool
  | .c (.ptr i _ _), .c (.ptr j _ _) => i != j
  | .c (.d (.ip _)), _ => true
  | .tup [], _ => true
  | _, .tup [] => true
  | _, _ => false

/-! ### Objects that stay as they are -/
def eqL {α : Type} (e : α → α → Bool) : List α → List α → Bool
  | [], [] => true
  | a :: x, b :: y => e a b && eqL e x y
  | _, _ => false
def eqD : Nat → D → D → Bool
  | 0, _, _ => false
  | n + 1, x, y => match x, y with
    | .bool a, .bool b => a == b
    | .int k a, .int k' b => decide (k = k') && a == b
    | .str a, .str b => a == b
    | .nilp, .nilp => true
    | .ip a, .ip b => eqL (eqD n) a b
    | .nils, .nils => true
    | .sl a l, .sl b l' => l == l' && eqL (eqD n) a b
    | .nilf, .nilf => true
    | .nili, .nili => true
    | .nilm, .nilm => true
    | .nilch, .nilch => true
    | _, _ => false
def eqC (n : Nat) (x y : C) : Bool :=
  match x, y with
  | .d a, .d b => eqD n a b
  | .ptr a b c, .ptr a' b' c' => a == a' && b == b' && c == c'
  | .os a b c d e f, .os a' b' c' d' e' f' => a == a' && b == b' && c == c' && d == d' && e == e' && decide (f = f')
  | .mp a, .mp b => a == b
  | .ch a, .ch b => a == b
  | _, _ => false
def eqOb (x y : Ob) : Bool :=
  match x, y with
  | .cells cs g _, .cells cs' g' _ => g == g' && eqL (eqC 8) cs cs'
  | _, _ => false
def stays (H H' : Heap) (id : Nat) : Bool :=
  match ob? H id, ob? H' id with
  | some o, some o' => eqOb o o'
  | _, _ => false
def O.isSt : O → Bool
  | .st .. => true
  | _ => false
/-- No operation but a store changes an object. -/
def keeps (E : Env) (regs : List V) (id : Nat) : List Gp → List V → Heap → Bool
  | [], _, _ => true
  | p :: ps, ts, H =>
    match wants ts p.guard with
    | none => false
    | some false => keeps E regs id ps (.tup [] :: ts) H
    | some true =>
      match step E (look E regs ts) H p.op with
      | none => false
      | some (v, H') => (p.op.isSt || stays H H' id) && keeps E regs id ps (v :: ts) H'
def keepsR (E : Env) (regs : List V) (ops : List Gp) (H : Heap) (k : Nat) : Bool :=
  match nth regs k with
  | .c (.ptr id _ _) => keeps E regs id ops [] H
  | _ => true

def exports (regs ts : List V) : List (Nat × Nat) → List V
  | [] => regs
  | (j, k) :: es => exports (put regs j (nth ts k)) ts es

structure St where
  regs : List V
  heap : Heap

def keepOnly (js : List Nat) : Nat → List V → List V
  | _, [] => []
  | j, v :: vs => (if js.contains j then v else .any) :: keepOnly js (j + 1) vs

/-- Objects from hl on go, if nothing refers to them. -/
def gc (hl : Nat) (s : St) : St :=
  if s.regs.all (V.under hl) && (s.heap.take hl).all (Ob.under hl) then ⟨s.regs, s.heap.take hl⟩ else s

def tidy (hl : Nat) : Option (List Nat) → St → St
  | none, s => s
  | some js, s => gc hl ⟨keepOnly js 0 s.regs, s.heap⟩

/-- A loop of at most n rounds. -/
def iter (js : Option (List Nat)) (hl : Nat) (body : St → Option (Ex × St)) : Nat → St → Option (Ex × St)
  | 0, _ => none
  | n + 1, s => match body s with
    | some (.nrm, s') => iter js hl body n (tidy hl js s')
    | r => r

/-- An empty object for a nil slice. -/
def freshen (j : Nat) (off : Option Nat) (sz : Nat) (s : St) : St :=
  match off with
  | none => match nth s.regs j with
    | .c (.d .nils) => ⟨put s.regs j (.c (.os s.heap.length 0 0 0 sz none)), s.heap ++ [.cells [] 0 false]⟩
    | _ => s
  | some o => match nth s.regs j with
    | .c (.ptr id gen 0) => match ob? s.heap id with
      | some (.cells cs g false) => match cs[o]? with
        | some (.d .nils) => if g = gen then ⟨s.regs, setOb s.heap id (.cells (splice cs o [.os s.heap.length 0 0 0 sz none]) g false) ++ [.cells [] 0 false]⟩ else s
        | _ => s
      | _ => s
    | _ => s

/-- An empty object for a nil slice of bytes in a cell behind a pointer: a builder's. -/
def freshenB (j o : Nat) (s : St) : St :=
  match nth s.regs j with
  | .c (.ptr id gen 0) => match ob? s.heap id with
    | some (.cells cs g false) => match cs[o]? with
      | some (.d .nils) => if g = gen then ⟨s.regs, setOb s.heap id (.cells (splice cs o [.os s.heap.length genK 0 0 1 none]) g false) ++ [.cells [] genK false]⟩ else s
      | _ => s
    | _ => s
  | _ => s

def C.isFn : C → Bool
  | .d (.fn _ _ _) => true
  | .fn _ _ _ => true
  | _ => false

/-- 'round': inside a round of a range over a function. -/
def exec (E : Env) (fuel : Nat) (round : Bool) : I → St → Option (Ex × St)
  | .skip, s => some (.nrm, s)
  | .seq a b, s => match exec E fuel round a s with
    | some (.nrm, s') => exec E fuel round b s'
    | r => r
  | .reg _ ops exp aps, s => match runOps E s.regs ops [] s.heap with
    | some (ts, H) => if aps.all (fun (a, b) => apart (look E s.regs ts a) (look E s.regs ts b)) then some (.nrm, ⟨exports s.regs ts exp, H⟩) else none
    | none => none
  | .regk _ ops exp ks aps, s => if ks.all (keepsR E s.regs ops s.heap) then (match runOps E s.regs ops [] s.heap with
    | some (ts, H) => if aps.all (fun (a, b) => apart (look E s.regs ts a) (look E s.regs ts b)) then some (.nrm, ⟨exports s.regs ts exp, H⟩) else none
    | none => none) else none
  | .cond c a b, s => match look E s.regs [] c with
    | .c (.d (.bool t)) => bif t then exec E fuel round a s else exec E fuel round b s
    | _ => none
  | .block id b, s => match exec E fuel round b s with
    | some (.exit id', s') => if id' = id then some (.nrm, s') else some (.exit id', s')
    | r => r
  | .loop js b, s => iter js s.heap.length (exec E fuel round b) fuel (tidy s.heap.length js s)
  | .exit id, s => some (.exit id, s)
  | .ret, s => some (.ret, s)
  | .rf f ps asg body, s =>
    if round then none else
    match look E s.regs [] f with
    | .c x =>
      if x.isFn = false then none else
      match E.call x [.c (.yld s.heap.length)] (s.heap ++ [.loop true none s.regs ps asg body]) with
      | some (_, H) =>
        match ob? H s.heap.length with
        | some (.loop true none _ _ _ _) => some (.nrm, ⟨s.regs, setOb H s.heap.length .dead⟩)
        | some (.loop false (some e) _ _ _ _) => some (e, ⟨s.regs, setOb H s.heap.length .dead⟩)
        | _ => none
      | none => none
    | _ => none
  | .nxm it jt jb, s => match look E s.regs [] it with
    | .c (.ptr id 0 0) => match ob? s.heap id with
      | some (.mit [] _) => some (.nrm, ⟨put (put s.regs jt .any) jb (.c (.d (.bool false))), s.heap⟩)
      | some (.mit [e] _) => some (.nrm, ⟨put (put s.regs jt .any) jb (.c (.d (.bool true))), setOb s.heap id (.mit [] (some e))⟩)
      | _ => none
    | _ => none
  | .bad, _ => none
  | .chain _, _ => none
  | .scope b, s => if round then none else exec E fuel round b s
  | .keep js, s => some (.nrm, ⟨keepOnly js 0 s.regs, s.heap⟩)
  | .fresh j off sz, s => some (.nrm, freshen j off sz s)
  | .freshb j off, s => some (.nrm, freshenB j off s)

def result (regs : List V) (H : Heap) : Rv → Option V
  | .r j => match nth regs j with
    | .any => none
    | .tup _ => none
    | v => some v
  | .cell j n g => match nth regs j with
    | .c (.ptr id gen off) => match ob? H id with
      | some (.cells cs g' _) => if g' = gen then ofCells g n ((cs.drop off).take n) else none
      | _ => none
    | _ => none

def results (regs : List V) (H : Heap) (rs : List Rv) : Option V :=
  match mapO (result regs H) rs with
  | some [v] => some v
  | some vs => some (.tup vs)
  | none => none

def pad (n : Nat) (vs : List V) : List V := vs ++ List.replicate (n - vs.length) .any

def runFn (E : Env) (fuel : Nat) (F : Fn) (args : List V) (H : Heap) : Option (V × Heap) :=
  if args.length = F.np then
    match exec E fuel false F.body ⟨pad F.nr args, H⟩ with
    | some (.exit _, _) => none
    | some (_, s) => (results s.regs s.heap F.res).map fun v => (v, s.heap)
    | none => none
  else none

structure Ctx where
  fns : FuncId → Option Fn
  prim : FuncId → List V → Option V
  hprim : FuncId → List V → Heap → Option (V × Heap)
  bprim : FuncId → List Nat → List V → Option (V × List Nat)
  glob : Nat → Option (List D)

def putAll : List V → List Nat → List V → List V
  | regs, j :: js, v :: vs => putAll (put regs j v) js vs
  | regs, _, _ => regs

def callN (X : Ctx) : Nat → C → List V → Heap → Option (V × Heap)
  | 0, _, _, _ => none
  | n + 1, f, args, H =>
    let E : Env := {
      call := callN X n
      vcall := fun f vs => match X.prim f vs with
        | some r => some r
        | none => match callN X n (.d (.fn f [] [])) vs [] with
          | some (r, H') => deepV H' r
          | none => none
      prim := X.prim, bprim := X.bprim, glob := X.glob }
    match f with
    | .d (.fn f first caps) => match X.fns f with
      | some F => runFn E n F (first.map (fun x => .c (.d x)) ++ args ++ caps.map (fun x => .c (.d x))) H
      | none => X.hprim f (first.map (fun x => .c (.d x)) ++ args ++ caps.map (fun x => .c (.d x))) H
    | .fn f first caps => match X.fns f with
      | some F => runFn E n F (first.map .c ++ args ++ caps.map .c) H
      | none => X.hprim f (first.map .c ++ args ++ caps.map .c) H
    | .yld id => match ob? H id with
      | some (.loop true none regs ps asg body) =>
        if args.length = ps.length then
          match exec E n true asg ⟨putAll regs ps args, H⟩ with
          | some (.nrm, s) =>
            match ob? s.heap id with
            | some (.loop true none regs1 ps1 asg1 body1) =>
              match exec E n true body ⟨s.regs, setOb s.heap id (.loop false none regs1 ps1 asg1 body1)⟩ with
              | some (e, s') =>
                match ob? s'.heap id with
                | some (.loop false none regs2 ps2 asg2 body2) =>
                  some (.c (.d (.bool (e == .nrm))), setOb s'.heap id (.loop (e == .nrm) (if e == .nrm then none else some e) regs2 ps2 asg2 body2))
                | _ => none
              | none => none
            | _ => none
          | _ => none
        else none
      | _ => none
    | _ => none

def vcallN (X : Ctx) (n : Nat) (f : FuncId) (vs : List V) : Option V :=
  match callN X n (.d (.fn f [] [])) vs [] with
  | some (r, H') => deepV H' r
  | none => none
end Mini
end Go.Proofs.YtmcgaakbkgdljaaGreatDoor
