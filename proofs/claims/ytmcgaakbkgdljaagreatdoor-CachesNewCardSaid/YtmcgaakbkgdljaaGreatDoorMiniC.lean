/-
  The check that ties a function's code to its form for the abstract machine. Definitions alone.
-/
import Derived.Test.YtmcgaakbkgdljaaGreatDoorMiniA
import GoSem.Dispatch
import GoSem.Machine.Frame
import GoSem.Core.Region
import Derived.Laws.Sem
namespace Go.Proofs.YtmcgaakbkgdljaaGreatDoor
namespace Mini
open Go

def okD : Value → D → Bool
  | .bool b, .bool b' => b == b'
  | .int k n, .int k' n' => k == k' && n == n'
  | .string s, .str l => s.data.toList.map UInt8.toNat == l
  | .pointer none, .nilp => true
  | .slice none 0 0, .nils => true
  | .nilFunc, .nilf => true
  | .nilIface, .nili => true
  | .map none, .nilm => true
  | .chan none, .nilch => true
  | _, _ => false
def okDs : List Value → List D → Bool
  | [], [] => true
  | v :: vs, d :: ds => okD v d && okDs vs ds
  | _, _ => false
def okCs : List Value → List C → Bool
  | [], [] => true
  | v :: vs, .d d :: ds => okD v d && okCs vs ds
  | _, _ => false
def okV : Value → V → Bool
  | .agg cs, .agg ds => okCs cs.toList ds
  | v, .c (.d d) => okD v d
  | _, _ => false

/-- What the check knows at an operation: how many stand ahead of it, the temporaries that these have set (none: no value of its own), and whatever they write. -/
structure K where
  i : Nat
  tm : List Nat
  loc : List (Option Nat)
  raw : List (Option Nat)
  ah : Nat → Bool

def okA (k : K) : Operand → A → Bool
  | .tmp t, .l j => decide (j < k.i) && (k.loc[k.i - 1 - j]? == some (some t)) && k.ah (k.i - 1 - j)
  | .tmp t, .r j => (k.tm[j]? == some t) && !((k.raw.take k.i).contains (some t))
  | .const v, .v x => okV v x
  | .global g, .g b => g == b
  | .func f, .v (.c (.d (.fn f' [] []))) => f == f'
  | _, _ => false
def okAs (k : K) : List Operand → List A → Bool
  | [], [] => true
  | x :: xs, a :: as => okA k x a && okAs k xs as
  | _, _ => false
def okO (k : K) : Option Operand → Option A → Bool
  | none, none => true
  | some x, some a => okA k x a
  | _, _ => false

section
variable (P : Program)
def size? (t : TypeId) : Option Nat := (P.info? t).map (·.size)
def bytes? (t : TypeId) : Option Nat := (P.info? t).map (·.bytes)
def agg? (t : TypeId) : Option Bool := (P.underlying t).map fun | .struct _ | .array _ _ => true | _ => false
def zero? (t : TypeId) : Option (List Value) := ((P.info? t).bind (·.zero)).map fun z => z.cells.toList
/-- The kind of a type's one cell: an integer, a bool, a string. -/
def kindOf : TypeDesc → Option Nat
  | .int _ => some 0
  | .bool => some 1
  | .string => some 2
  | _ => none
def flatRep (n : Nat) (ks : List Nat) : List Nat := (List.replicate n ks).flatten
/-- The type's values are integers, bools and strings alone: which, cell by cell. -/
def flat? : Nat → TypeId → Option (List Nat)
  | 0, _ => none
  | d + 1, t =>
    match P.underlying t with
    | some (.array n e) => match flat? d e with
      | some ks => if size? P e = some ks.length then some (flatRep n ks) else none
      | none => none
    | some (.struct fs) => if P.stoodInHeld t then none else
      fs.toList.foldl (fun acc f => match acc with
        | some ks0 => if f.name ≠ "_" ∧ f.offset = ks0.length then (match flat? d f.type with
          | some ks => if size? P f.type = some ks.length then some (ks0 ++ ks) else none
          | none => none) else none
        | none => none) (some [])
    | some u => (kindOf u).map fun k => [k]
    | none => none
def isAggT (t : TypeId) : Bool := agg? P t == some true
/-- The sizes of all fields are known. -/
def sized (t : TypeId) : Bool :=
  match P.underlying t with
  | some (.struct fs) => (fs.toList.mapM fun f => (P.info? f.type).map fun i => (f.offset, i.size)).isSome
  | some (.array _ e) => (size? P e).isSome
  | _ => true
/-- Parts of a struct or an array: (place, size) by number. -/
def place? (t : TypeId) (i : Nat) : Option (Nat × Nat) :=
  match P.underlying t with
  | some (.struct fs) => (fs[i]?).bind fun f => (size? P f.type).map fun n => (f.offset, n)
  | some (.array _ e) => (size? P e).map fun n => (i * n, n)
  | some (.slice e) => (size? P e).map fun n => (i * n, n)
  | _ => none
def okParts (k : K) (t : TypeId) : List (Nat × Operand) → List (Nat × Nat × A) → Bool
  | [], [] => true
  | (i, x) :: xs, (off, n, a) :: as => (place? P t i == some (off, n)) && okA k x a && okParts k t xs as
  | _, _ => false
/-- A method of a type that is no pointer, on the value itself. -/
def methodOk (t : TypeId) (name : String) (f : FuncId) : Bool :=
  (match P.info? t with
    | some i => (match i.methods.find? (·.name == name) with | some m => m.path.isEmpty && (m.func == some (f, false)) | none => false)
    | none => false) && (match P.underlying t with | some (.pointer _) => false | some _ => true | none => false)
def okOp (k : K) (o : Oper) (p : O) : Bool :=
  match o.op, p with
  | .move x, .mov a | .assign x, .mov a => okA k x a
  | .pick c a b, .pick c' a' b' => okA k c c' && okA k a a' && okA k b b'
  | .alloc t, .new z => match zero? P t with | some vs => okDs vs z | none => false
  | .alloc t, .newb t' => t == t' && (match zero? P t with | some [.pointer none, .slice none 0 0] => true | _ => false)
  | .alloc t, .pre => (zero? P t).isSome && (match zero? P t with | some vs => vs.all Value.oneCell' | none => false)
  | .box _ x, .box a => okA k x a
  | .build t ps, .bld z as =>
    (match zero? P t with | some vs => okDs vs z | none => false) && okParts P k t ps.toList as && isAggT P t && sized P t && ps.toList.all fun (i, _) => (match P.underlying t with | some (.array n _) => decide (i < n) | _ => true)
  | .buildSlice t n ps, .bsl n' sz z as =>
    (match P.underlying t with
      | some (.slice e) => (size? P e == some sz) && (match zero? P e with | some vs => okDs vs z && (vs.length == sz) | none => false)
      | _ => false) && n == n' && okParts P k t ps.toList as && decide (n * sz ≤ 16777216) && decide (0 < n * sz)
  | .load t x, .ld g n a => (agg? P t == some g) && (size? P t == some n) && okA k x a && decide (0 < n)
  | .store t x y, .st n a b => (size? P t == some n) && okA k x a && okA k y b && decide (0 < n)
  | .fieldAddr t x f, .fa off a =>
    (match P.underlying t with
      | some (.struct fs) => (match fs[f]? with | some fd => fd.offset == off && (match size? P fd.type with | some n => decide (n ≠ 0) | none => false) | none => false)
      | _ => false) && okA k x a
  | .field t x f, .fld g off n a =>
    (match P.underlying t with
      | some (.struct fs) => (match fs[f]? with | some fd => fd.offset == off && (size? P fd.type == some n) && (agg? P fd.type == some g) | none => false)
      | _ => false) && okA k x a && decide (0 < n)
  | .indexAddr t x i, .ixp len sz a j =>
    (match P.underlying t with | some (.array n e) => n == len && (size? P e == some sz) | _ => false) && okA k x a && okA k i j
  | .indexAddr t x i, .ixa sz a j =>
    (match P.underlying t with | some (.slice e) => (size? P e == some sz) | _ => false) && okA k x a && okA k i j
  | .index t x i, .ixs a j => (match P.underlying t with | some .string => true | _ => false) && okA k x a && okA k i j
  | .index t x i, .ixg g len sz a j =>
    (match P.underlying t with | some (.array n e) => n == len && (size? P e == some sz) && (agg? P e == some g) | _ => false) && okA k x a && okA k i j && decide (0 < sz)
  | .slice t x lo hi mx, .sls a lo' hi' => (match P.underlying t with | some .string => true | _ => false) && okA k x a && okO k lo lo' && okO k hi hi' && mx.isNone
  | .slice t x lo hi mx, .slc sz a lo' hi' mx' => (match P.underlying t with | some (.slice e) => (size? P e == some sz) | _ => false) && okA k x a && okO k lo lo' && okO k hi hi' && okO k mx mx' && (mx.isNone || hi.isSome) && decide (0 < sz)
  | .slice t x lo hi mx, .slp len sz a lo' hi' mx' => (match P.underlying t with | some (.array n e) => n == len && (size? P e == some sz) | _ => false) && okA k x a && okO k lo lo' && okO k hi hi' && okO k mx mx' && (mx.isNone || hi.isSome)
  | .makeSlice t l c, .mks sz by' z l' c' =>
    (match P.underlying t with
      | some (.slice e) => (size? P e == some sz) && (bytes? P e == some by') && (match zero? P e with | some vs => okDs vs z && (vs.length == sz) | none => false)
      | _ => false) && okA k l l' && okA k c c' && decide (0 < sz)
  | .extract x i, .ext a j => okA k x a && i == j
  | .binOp op _ x y _, .bin op' a b => op == op' && okA k x a && okA k y b
  | .binOp op t x y _, .beq neg a b => (match op with | .eql => !neg | .neq => neg | _ => false) && (match P.underlying t with | some .bool => true | _ => false) && okA k x a && okA k y b
  | .binOp op t x y _, .isn neg a => (match y with | .const .nilIface => true | _ => false) && (match op with | .eql => !neg | .neq => neg | _ => false) && (match P.underlying t with | some (.interface _) => true | _ => false) && okA k x a
  | .binOp op t x y _, .eqa neg n a b =>
    (match op with | .eql => !neg | .neq => neg | _ => false) && (flat? P 9 t == some (List.replicate n 0)) && isAggT P t && !(P.eqGuardType P.depth t) && okA k x a && okA k y b
  | .unOp op _ x, .un op' a => (op == op') && okA k x a
  | .convert s t x, .cvi kd a => (match P.underlying s, P.underlying t with | some (.int _), some (.int kd') => kd == kd' | _, _ => false) && okA k x a
  | .convert s t x, .cvs a => (match P.underlying s, P.underlying t with | some .string, some .string => true | _, _ => false) && okA k x a
  | .convert s t x, .s2b a => (match P.underlying s, P.underlying t with | some .string, some (.slice e) => (match P.underlying e with | some (.int .u8) => true | _ => false) | _, _ => false) && okA k x a
  | .convert s t x, .b2s a => (match P.underlying s, P.underlying t with | some (.slice e), some .string => (match P.underlying e with | some (.int .u8) => true | _ => false) | _, _ => false) && okA k x a
  | .makeInterface t x, .mki a => (match P.underlying t with | some (.interface _) => false | some _ => true | none => false) && okA k x a
  | .nilCheck x, .nlc a => okA k x a
  | .makeFunc (.func f) first caps, .mkf f' first' caps' => f == f' && okAs k first.toList first' && okAs k caps.toList caps'
  | .call c, .vc f' args' | .call c, .pc f' args' => (match c.callee with | .value (.func f) => f == f' | _ => false) && okAs k c.args.toList args'
  | .call c, .hc f' args' => (match c.callee with | .value f => okA k f f' | _ => false) && okAs k c.args.toList args'
  | .call c, .len a =>
    (match c.callee, c.argTypes[0]? with
      | .builtin .len, some t => (match P.underlying t with | some (.slice _) => true | _ => false)
      | _, _ => false) && okAs k c.args.toList [a]
  | .call c, .lns a =>
    (match c.callee, c.argTypes[0]? with
      | .builtin .len, some t => (match P.underlying t with | some .string => true | _ => false)
      | _, _ => false) && okAs k c.args.toList [a]
  | .call c, .cap a =>
    (match c.callee, c.argTypes[0]? with
      | .builtin .cap, some t => (match P.underlying t with | some (.slice _) => true | _ => false)
      | _, _ => false) && okAs k c.args.toList [a]
  | .call c, .mm mx a b =>
    (match c.callee with | .builtin .max => mx | .builtin .min => !mx | _ => false) && okAs k c.args.toList [a, b]
  | .call c, .app sz a b =>
    (match c.callee, c.argTypes[0]?, c.argTypes[1]? with
      | .builtin .append, some t, some u => (match P.underlying t, P.underlying u with
        | some (.slice e), some (.slice _) | some (.slice e), some .string => (size? P e == some sz) && (match bytes? P e with | some n => decide (n ≤ 65536) | none => false) && (match zero? P e with | some vs => (vs.length == sz) && vs.all Value.oneCell' | none => false)
        | _, _ => false)
      | _, _, _ => false) && okAs k c.args.toList [a, b] && decide (0 < sz)
  | .call c, .apb a b =>
    (match c.callee, c.argTypes[0]?, c.argTypes[1]? with
      | .builtin .append, some t, some u => (match P.underlying t, P.underlying u with
        | some (.slice e), some (.slice _) | some (.slice e), some .string => (size? P e == some 1) && (match bytes? P e with | some n => decide (n ≤ 65536) | none => false) && (match zero? P e with | some vs => (vs.length == 1) && vs.all Value.oneCell' | none => false)
        | _, _ => false)
      | _, _, _ => false) && okAs k c.args.toList [a, b] && (match c.argTypes[0]? with | some t => (match P.underlying t with | some (.slice e) => e == u8T | _ => false) | none => false)
  | .call c, .apn sz b =>
    (match c.callee, c.argTypes[0]?, c.argTypes[1]? with
      | .builtin .append, some t, some u => (match P.underlying t, P.underlying u with
        | some (.slice e), some (.slice _) | some (.slice e), some .string => (size? P e == some sz) && (match bytes? P e with | some n => decide (n ≤ 65536) | none => false) && (match zero? P e with | some vs => (vs.length == sz) && vs.all Value.oneCell' | none => false)
        | _, _ => false)
      | _, _, _ => false) && (match c.args.toList with | [.const (.slice none 0 0), y] => okA k y b | _ => false) && decide (0 < sz)
  | .call c, .cpy sz a b =>
    (match c.callee, c.argTypes[0]? with
      | .builtin .copy, some t => (match P.underlying t with | some (.slice e) => (size? P e == some sz) | _ => false)
      | _, _ => false) && okAs k c.args.toList [a, b] && decide (0 < sz)
  | .makeMap _ none, .mkm => true
  | .makeChan t x, .mkc by' a => (match P.underlying t with | some (.chan _ e) => bytes? P e == some by' | _ => false) && okA k x a
  | .call c, .ivc tbl a args => (match c.callee with | .invoke r name => okA k r a && tbl.all (fun (t, f) => methodOk P t name f) | _ => false) && okAs k c.args.toList args
  | .mapUpdate t m x y, .mpu g ks a b c | .insert t m x y, .mpu g ks a b c => (match P.underlying t with | some (.map kt _) => (flat? P 9 kt == some ks) && (agg? P kt == some g) | _ => false) && okA k m a && okA k x b && okA k y c
  | .lookup t m x ok, .lkp ok' z g ks a b =>
    (match P.underlying t with
      | some (.map kt e) => (flat? P 9 kt == some ks) && (agg? P kt == some g) && (match (P.info? e).bind (·.zero) with | some zv => okV zv z | none => false)
      | _ => false) && ok == ok' && okA k m a && okA k x b
  | .call c, .mdl g ks a b =>
    (match c.callee, c.argTypes[0]? with
      | .builtin .delete, some t => (match P.underlying t with | some (.map kt _) => (flat? P 9 kt == some ks) && (agg? P kt == some g) | _ => false)
      | _, _ => false) && okAs k c.args.toList [a, b]
  | .binOp op t x y _, .eqk neg ks a b =>
    (match op with | .eql => !neg | .neq => neg | _ => false) && (flat? P 9 t == some ks) && isAggT P t && !(P.eqGuardType P.depth t) && okA k x a && okA k y b
  | .binOp op t x y _, .isz kd neg a =>
    (match op with | .eql => !neg | .neq => neg | _ => false) && okA k x a &&
    (match kd, P.underlying t, y with
      | 0, some (.pointer _), .const (.pointer none) | 1, some (.func _ _ _), .const .nilFunc | 2, some (.map _ _), .const (.map none) | 3, some (.slice _), .const (.slice none 0 0) | 4, some (.chan _ _), .const (.chan none) => true
      | _, _, _ => false)
  | .makeInterface t x, .mkt t' a => t == t' && (match P.underlying t with | some (.interface _) => false | some _ => true | none => false) && okA k x a
  | .typeAssert x _ t ok, .tas t' n g ok' z a =>
    t == t' && ok == ok' && (size? P t == some n) && (agg? P t == some g) && (match P.underlying t with | some (.interface _) => false | some _ => true | none => false) && (match (P.info? t).bind (·.zero) with | some zv => okV zv z | none => false) && okA k x a
  | .range t x, .rgs a => (match P.underlying t with | some .string => true | _ => false) && okA k x a
  | .next x true, .nxs a => okA k x a
  | .range t x, .rgm a => (match P.underlying t with | some (.map _ _) => true | _ => false) && okA k x a
  | .entry x, .ent a => okA k x a
  | .call c, .clr sz z a =>
    (match c.callee, c.argTypes[0]? with
      | .builtin .clear, some t => (match P.underlying t with | some (.slice e) => (size? P e == some sz) && (match zero? P e with | some vs => okDs vs z && (vs.length == sz) | none => false) | _ => false)
      | _, _ => false) && okAs k c.args.toList [a] && decide (0 < sz)
  | .call c, .lnm a =>
    (match c.callee, c.argTypes[0]? with
      | .builtin .len, some t => (match P.underlying t with | some (.map _ _) => true | _ => false)
      | _, _ => false) && okAs k c.args.toList [a]
  | _, _ => false

end
/-! ### Regions -/
/-- Which operations come ahead of an operation on every order: bit j of the number. -/
def bindMask (o : Oper) : Nat := o.after.toList.foldl (fun m e => if Region.binds .any e then m ||| 2 ^ e.on else m) 0
def clo1 (prev : List Nat) (o : Oper) : Nat := o.after.toList.foldl (fun m e => if Region.binds .any e then m ||| 2 ^ e.on ||| prev.getD e.on 0 else m) 0
/-- The closures, one behind the other. -/
def clos : List Oper → List Nat → List Nat
  | [], acc => acc
  | o :: os, acc => clos os (acc ++ [clo1 acc o])

/-- The operation 'ini' stores into what its 'pre' has laid: the number of that one. -/
def partner (ops : List Oper) (ps : List Gp) (i : Nat) : Option Nat :=
  match ops[i]?, ps[i]? with
  | some o, some p => match o.op, p.op with
    | .store _ (.tmp t) _, .ini _ _ => (List.range i).find? fun j => match ops[j]?, ps[j]? with
      | some o', some p' => o'.dst == some t && (match p'.op with | .pre => true | _ => false)
      | _, _ => false
    | _, _ => none
  | _, _ => none
def locOf (ops : List Oper) (ps : List Gp) (i : Nat) : Option Nat :=
  match ops[i]?, ps[i]? with
  | some o, some p => match p.op with
    | .pre => none
    | .ini _ _ => match partner ops ps i with
      | some a => match ops[a]? with
        | some o' => o'.dst
        | none => none
      | none => none
    | _ => o.dst
  | _, _ => none

def noHeap : O → Bool
  | .mov _ | .pick .. | .bin .. | .beq .. | .isn .. | .eqa .. | .un .. | .cvi .. | .cvs .. | .bld .. | .fa .. | .fld .. | .ixp .. | .ixa .. | .len _ | .lns _ | .cap _ | .slc .. | .ixs .. | .ixg .. | .sls .. | .ext .. | .mm .. | .mkf .. | .mki .. | .nlc _ | .pre | .eqk .. | .isz .. | .mkt .. | .tas .. => true
  | _ => false
/-- An operand at operation i, told behind all n operations. -/
def atEnd (n i : Nat) : A → A
  | .l k => .l (k + (n - i))
  | a => a
/-- What a register points to stays as it is. -/
def isMark (k : Nat) : A × A → Bool
  | (.r k', .v .any) => k' == k
  | _ => false
/-- The register that an address is made of: by fields, by checks for nil. -/
def baseOf (ps : List Gp) : Nat → Nat → A → Option Nat
  | _, _, .r k => some k
  | f + 1, i, .l k => if k < i then (match ps[i - 1 - k]? with
      | some ⟨none, .fa _ b⟩ => baseOf ps f (i - 1 - k) b
      | some ⟨none, .nlc b⟩ => baseOf ps f (i - 1 - k) b
      | some ⟨none, .mov b⟩ => baseOf ps f (i - 1 - k) b
      | _ => none) else none
  | _, _, _ => none
def isAny : A → Bool
  | .v .any => true
  | _ => false
/-- A load may go in any order with an effect: its object stays as it is; it is a package's variable, or nothing that is written; the effect is a store elsewhere. -/
def inAps (ps : List Gp) (n i j : Nat) (p q : O) (aps : List (A × A)) : Bool :=
  match p with
  | .ld _ _ a => (!q.isSt && (match baseOf ps i i a with | some k => aps.any (isMark k) | none => false)) || isG a || aps.any (fun (x, y) => isL x && isAny y && eqA x (atEnd n i a)) ||
      (match q with | .st _ b _ => aps.any fun (x, y) => eqA x (atEnd n i a) && eqA y (atEnd n j b) | _ => false)
  | _ => false
  where
  eqA : A → A → Bool
  | .r j, .r k => j == k
  | .l j, .l k => j == k
  | _, _ => false
  isG : A → Bool
  | .g _ => true
  | _ => false
  isL : A → Bool
  | .l _ => true
  | _ => false

def regsOf : List Operand → List Nat
  | [] => []
  | .tmp t :: xs => t :: regsOf xs
  | _ :: xs => regsOf xs

def okGuard (i : Nat) : Option (Nat × Bool) → Option (Nat × Bool) → Bool
  | none, none => true
  | some (g, b), some (k, b') => decide (k < i) && g == i - 1 - k && b == b'
  | _, _ => false

/-- Does operation i have to come ahead of operation j? -/
def ahead (draw : Bool) (cl : List Nat) (i j : Nat) : Bool :=
  decide (i < j) && (!draw || (cl.getD j 0).testBit i)

def okOne (P : Program) (tm : List Nat) (nt : Nat) (draw : Bool) (cl : List Nat) (ops : List Oper) (ps : List Gp) (loc raw : List (Option Nat)) (aps : List (A × A)) (i : Nat) (o : Oper) (p : Gp) : Bool :=
  let n := ops.length
  let k : K := ⟨i, tm, loc, raw, fun j => ahead draw cl j i⟩
  -- the operation itself
  (match p.op with
    | .ini m a => (match partner ops ps i with
      | some j => decide (0 < m) && (match o.op with | .store t _ y => (size? P t == some m) && okA k y a | _ => false) && o.guard.isNone && ahead draw cl j i && (List.range n).all (fun i' => i' == i || partner ops ps i' != some j) &&
          (match ops[j]? with | some o' => (match o'.op, o.op with | .alloc t, .store t' _ _ => size? P t == size? P t' && (match zero? P t with | some vs => some vs.length == size? P t | none => false) | _, _ => false) && o'.guard.isNone | none => false)
      | none => false)
    | q => okOp P k o q) &&
  okGuard i o.guard p.guard && (match p.guard with | some (g, _) => ahead draw cl (i - 1 - g) i && (match ops[i - 1 - g]? with | some o' => (match loc[i - 1 - g]? with | some l => l.isSome && o'.dst == l | none => false) | none => false) | none => true) &&
  (match o.dst with | some t => decide (t < nt) && ((raw.take i).all (· != some t)) | none => true) &&
  -- what it reads
  (regsOf o.op.operands.toList).all (fun t => (List.range n).all fun j => j == i || !((raw.getD j none) == some t) || ahead draw cl j i || ahead draw cl i j) &&
  o.after.all (fun e => !Region.binds .any e || decide (e.on < i)) &&
  (match o.op with | .select .. | .defer _ | .go _ => false | _ => true) &&
  -- what writes, and what looks at memory
  (if p.op.eff then (List.range n).all (fun j => j == i || (match ps[j]? with
      | some q => noHeap q.op || ahead draw cl i j || ahead draw cl j i || inAps ps n j i q.op p.op aps
      | none => true)) else true)

def okAll (P : Program) (tm : List Nat) (nt : Nat) (draw : Bool) (cl : List Nat) (ops : List Oper) (ps : List Gp) (loc raw : List (Option Nat)) (aps : List (A × A)) : Nat → List Oper → List Gp → Bool
  | _, [], [] => true
  | i, o :: os, p :: qs => okOne P tm nt draw cl ops ps loc raw aps i o p && okAll P tm nt draw cl ops ps loc raw aps (i + 1) os qs
  | _, _, _ => false

def okExp (tm : List Nat) (loc raw : List (Option Nat)) (n : Nat) (exp : List (Nat × Nat)) : Bool :=
  (exp.all fun (j, k) => decide (k < n) && (match tm[j]?, loc[n - 1 - k]? with | some t, some (some t') => t == t' | _, _ => false)) &&
  (List.range tm.length).all fun j => match tm[j]? with
    | some t => !(raw.contains (some t)) || exp.any fun (j', _) => j == j'
    | none => true

def okReg (P : Program) (tm : List Nat) (nt : Nat) (draw : Bool) (ops : List Oper) (ps : List Gp) (exp : List (Nat × Nat)) (aps : List (A × A)) : Bool :=
  let n := ops.length
  let loc := (List.range n).map (locOf ops ps)
  let raw := ops.map (·.dst)
  okAll P tm nt draw (clos ops []) ops ps loc raw aps 0 ops ps && okExp tm loc raw n exp && (!draw || P.follows .mixedOrders)

/-- No temporary twice. -/
def once : List Nat → Bool
  | [] => true
  | t :: ts => !(ts.contains t) && once ts

/-- The register of a result; a result that no register takes. -/
def okDst (tm : List Nat) (nt j : Nat) : Option Tmp → Bool
  | some t => (tm[j]? == some t) && decide (t < nt) && (List.range tm.length).all fun j' => !(tm[j']? == some t) || j' == j
  | none => false
def noDst (tm : List Nat) : Option Tmp → Bool
  | some t => !(tm.contains t)
  | none => true
def okCm (P : Program) (tm : List Nat) (nt : Nat) (o : Oper) : Cm → Bool
  | .op p j => (match p with | .fa .. | .ld .. | .ext .. | .mov _ | .bin .. | .nlc _ => true | _ => false) && okOp P ⟨0, tm, [], [], fun _ => true⟩ o p && o.guard.isNone && okDst tm nt j o.dst
  | .snd c x => (match o.op with | .send ch v => okA ⟨0, tm, [], [], fun _ => true⟩ ch c && okA ⟨0, tm, [], [], fun _ => true⟩ v x | _ => false) && o.guard.isNone && noDst tm o.dst
  | .sel c j z => (match o.op with
      | .select cs false => (match cs.toList with
        | [⟨ch, none, el⟩] => okA ⟨0, tm, [], [], fun _ => true⟩ ch c && (match (P.info? el).bind (·.zero) with | some zv => okV zv z | none => false)
        | _ => false)
      | _ => false) && o.guard.isNone && okDst tm nt j o.dst
def okChain (P : Program) (tm : List Nat) (nt : Nat) : List Oper → List Cm → Bool
  | [], [] => true
  | o :: os, x :: xs => okCm P tm nt o x && okChain P tm nt os xs
  | _, _ => false

/-- The code. -/
def okI (P : Program) (tm : List Nat) (nt : Nat) : I → Code → Bool
  | .skip, .skip => true
  | .skip, .label _ => true
  | .scope b, .scope c => okI P tm nt b c
  | .bad, _ => true
  | .seq (.keep _) b, c => okI P tm nt b c
  | .seq (.fresh _ _ _) b, c => okI P tm nt b c
  | .seq (.freshb _ _) b, c => okI P tm nt b c
  | .seq a b, .seq c d => okI P tm nt a c && okI P tm nt b d
  | .reg draw ps exp aps, .region _ ops draw' => draw == draw' && okReg P tm nt draw ops.toList ps exp aps
  | .regk draw ps exp ks aps, .region _ ops draw' => draw == draw' && okReg P tm nt draw ops.toList ps exp (aps ++ ks.map fun k => (.r k, .v .any))
  | .cond c a b, .cond x y z => okA ⟨0, tm, [], [], fun _ => true⟩ x c && okI P tm nt a y && okI P tm nt b z
  | .block i b, .block i' c => i == i' && okI P tm nt b c
  | .loop _ b, .loop c => okI P tm nt b c
  | .rf f ps asg body, .rangeFunc g params c d => okA ⟨0, tm, [], [], fun _ => true⟩ g f && (ps.map (fun j => tm[j]?) == params.toList.map some) && once tm && tm.all (fun t => decide (t < nt)) && okI P tm nt asg c && okI P tm nt body d
  | .exit i, .exit i' => i == i'
  | .nxm it jt jb, .region _ ops false => (match ops.toList with
    | [o1, o2] => (match o1.op, o1.dst, o2.op, o2.dst with
      | .next x false, some t1, .extract (.tmp t1') 0, some t2 => (t1' == t1) && okA ⟨0, tm, [], [], fun _ => true⟩ x it && (tm[jt]? == some t1) && (tm[jb]? == some t2) && (t1 != t2) && decide (t1 < nt) && decide (t2 < nt) && o1.guard.isNone && o2.guard.isNone && ((List.range tm.length).all fun j => (!(tm[j]? == some t1) || j == jt) && (!(tm[j]? == some t2) || j == jb)) && o1.after.toList.isEmpty && (o2.after.toList.all fun e => e.on == 0) && (o2.after.toList.any fun e => Region.binds .any e && e.on == 0)
      | _, _, _, _ => false)
    | _ => false)
  | .chain xs, .region _ ops false => okChain P tm nt ops.toList xs
  | .ret, .ret => true
  | _, _ => false

def okRv (P : Program) (tm : List Nat) : Rv → ResultVar → Bool
  | .r j, .tmp t => tm[j]? == some t
  | .cell j n g, .cell t ty => (tm[j]? == some t) && (size? P ty == some n) && (agg? P ty == some g) && decide (0 < n)
  | _, _ => false
def okRvs (P : Program) (tm : List Nat) : List Rv → List ResultVar → Bool
  | [], [] => true
  | a :: as, b :: bs => okRv P tm a b && okRvs P tm as bs
  | _, _ => false
def okFn (P : Program) (F : Fn) (fn : Func) : Bool :=
  decide (F.np = fn.params.size + fn.nfree) && decide (F.tm.length = F.nr) && decide (F.np ≤ F.nr) && decide (F.tm.take F.np = List.range F.np) && once F.tm && F.tm.all (fun t => decide (t < fn.ntmps)) &&
  okRvs P F.tm F.res fn.results.toList && (match fn.body with | some c => okI P F.tm fn.ntmps F.body c | none => false)
end Mini
end Go.Proofs.YtmcgaakbkgdljaaGreatDoor
