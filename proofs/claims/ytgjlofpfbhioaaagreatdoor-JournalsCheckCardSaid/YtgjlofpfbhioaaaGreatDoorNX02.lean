/-
  JournalsCheck: texts of the proof, part 3.
-/
import Derived.Test.YtgjlofpfbhioaaaGreatDoorNX01
import GoSem.Dispatch
import GoSem.Machine.Frame
import GoSem.Core.Region
import Derived.Laws.Sem
namespace Go.Proofs.YtgjlofpfbhioaaaGreatDoor
namespace Mini
open Go
def okD : Value → D → Bool
  | .bool b, .bool b' => b == b'
  | .int k n, .int k' n' => k == k' && n == n'
  | .string s, .str l => s.data.toList.map UInt8.toNat == l
  | .pointer none, .nilp => true
  | .slice none 0 0, .nils => true
  | .nilFunc, .nilf => true
  | .nilIface, .nili => true
  | _, _ => false
def okDs : List Value → List D → Bool
  | [], [] => true
  | v :: vs, d :: ds => okD v d && okDs vs ds
  | _, _ => false
def okCs : List Value → List C → Bool
  | [], [] => true
  | v :: vs, .d d :: ds => okD v d && okCs vs ds
  | _, _ => false
def okV : Value → V → Bool
  | .agg cs, .agg ds => okCs cs.toList ds
  | v, .c (.d d) => okD v d
  | _, _ => false
structure K where
  i : Nat
  tm : List Nat
  loc : List (Option Nat)
  raw : List (Option Nat)
  ah : Nat → Bool
def okA (k : K) : Operand → A → Bool
  | .tmp t, .l j => decide (j < k.i) && (k.loc[k.i - 1 - j]? == some (some t)) && k.ah (k.i - 1 - j)
  | .tmp t, .r j => (k.tm[j]? == some t) && !((k.raw.take k.i).contains (some t))
  | .const v, .v x => okV v x
  | .global g, .g b => g == b
  | .func f, .v (.c (.d (.fn f' [] []))) => f == f'
  | _, _ => false
def okAs (k : K) : List Operand → List A → Bool
  | [], [] => true
  | x :: xs, a :: as => okA k x a && okAs k xs as
  | _, _ => false
def okO (k : K) : Option Operand → Option A → Bool
  | none, none => true
  | some x, some a => okA k x a
  | _, _ => false
section
variable (P : Program)
def size? (t : TypeId) : Option Nat := (P.info? t).map (·.size)
def bytes? (t : TypeId) : Option Nat := (P.info? t).map (·.bytes)
def agg? (t : TypeId) : Option Bool := (P.underlying t).map fun | .struct _ | .array _ _ => true | _ => false
def zero? (t : TypeId) : Option (List Value) := ((P.info? t).bind (·.zero)).map fun z => z.cells.toList
def ints? : Nat → TypeId → Option Nat
  | 0, _ => none
  | d + 1, t =>
    match P.underlying t with
    | some (.int _) => some 1
    | some (.array n e) => match ints? d e with
      | some m => if size? P e = some m then some (n * m) else none
      | none => none
    | some (.struct fs) => if P.stoodInHeld t then none else
      fs.toList.foldl (fun acc f => match acc with
        | some off => if f.name ≠ "_" ∧ f.offset = off then (match ints? d f.type with
          | some m => if size? P f.type = some m then some (off + m) else none
          | none => none) else none
        | none => none) (some 0)
    | _ => none
def isAggT (t : TypeId) : Bool := agg? P t == some true
def sized (t : TypeId) : Bool :=
  match P.underlying t with
  | some (.struct fs) => (fs.toList.mapM fun f => (P.info? f.type).map fun i => (f.offset, i.size)).isSome
  | some (.array _ e) => (size? P e).isSome
  | _ => true
def place? (t : TypeId) (i : Nat) : Option (Nat × Nat) :=
  match P.underlying t with
  | some (.struct fs) => (fs[i]?).bind fun f => (size? P f.type).map fun n => (f.offset, n)
  | some (.array _ e) => (size? P e).map fun n => (i * n, n)
  | some (.slice e) => (size? P e).map fun n => (i * n, n)
  | _ => none
def okParts (k : K) (t : TypeId) : List (Nat × Operand) → List (Nat × Nat × A) → Bool
  | [], [] => true
  | (i, x) :: xs, (off, n, a) :: as => (place? P t i == some (off, n)) && okA k x a && okParts k t xs as
  | _, _ => false
def okOp (k : K) (o : Oper) (p : O) : Bool :=
  match o.op, p with
  | .move x, .mov a | .assign x, .mov a => okA k x a
  | .pick c a b, .pick c' a' b' => okA k c c' && okA k a a' && okA k b b'
  | .alloc t, .new z => match zero? P t with | some vs => okDs vs z | none => false
  | .alloc t, .newb t' => t == t' && (match zero? P t with | some [.pointer none, .slice none 0 0] => true | _ => false)
  | .alloc t, .pre => (zero? P t).isSome && (match zero? P t with | some vs => vs.all Value.oneCell' | none => false)
  | .box _ x, .box a => okA k x a
  | .build t ps, .bld z as =>
    (match zero? P t with | some vs => okDs vs z | none => false) && okParts P k t ps.toList as && isAggT P t && sized P t && ps.toList.all fun (i, _) => (match P.underlying t with | some (.array n _) => decide (i < n) | _ => true)
  | .buildSlice t n ps, .bsl n' sz z as =>
    (match P.underlying t with
      | some (.slice e) => (size? P e == some sz) && (match zero? P e with | some vs => okDs vs z && (vs.length == sz) | none => false)
      | _ => false) && n == n' && okParts P k t ps.toList as && decide (n * sz ≤ 16777216) && decide (0 < n * sz)
  | .load t x, .ld g n a => (agg? P t == some g) && (size? P t == some n) && okA k x a && decide (0 < n)
  | .store t x y, .st n a b => (size? P t == some n) && okA k x a && okA k y b && decide (0 < n)
  | .fieldAddr t x f, .fa off a =>
    (match P.underlying t with
      | some (.struct fs) => (match fs[f]? with | some fd => fd.offset == off && (match size? P fd.type with | some n => decide (n ≠ 0) | none => false) | none => false)
      | _ => false) && okA k x a
  | .field t x f, .fld g off n a =>
    (match P.underlying t with
      | some (.struct fs) => (match fs[f]? with | some fd => fd.offset == off && (size? P fd.type == some n) && (agg? P fd.type == some g) | none => false)
      | _ => false) && okA k x a && decide (0 < n)
  | .indexAddr t x i, .ixp len sz a j =>
    (match P.underlying t with | some (.array n e) => n == len && (size? P e == some sz) | _ => false) && okA k x a && okA k i j
  | .indexAddr t x i, .ixa sz a j =>
    (match P.underlying t with | some (.slice e) => (size? P e == some sz) | _ => false) && okA k x a && okA k i j
  | .index t x i, .ixs a j => (match P.underlying t with | some .string => true | _ => false) && okA k x a && okA k i j
  | .index t x i, .ixg g len sz a j =>
    (match P.underlying t with | some (.array n e) => n == len && (size? P e == some sz) && (agg? P e == some g) | _ => false) && okA k x a && okA k i j && decide (0 < sz)
  | .slice t x lo hi mx, .sls a lo' hi' => (match P.underlying t with | some .string => true | _ => false) && okA k x a && okO k lo lo' && okO k hi hi' && mx.isNone
  | .slice t x lo hi mx, .slc sz a lo' hi' mx' => (match P.underlying t with | some (.slice e) => (size? P e == some sz) | _ => false) && okA k x a && okO k lo lo' && okO k hi hi' && okO k mx mx' && (mx.isNone || hi.isSome) && decide (0 < sz)
  | .slice t x lo hi mx, .slp len sz a lo' hi' mx' => (match P.underlying t with | some (.array n e) => n == len && (size? P e == some sz) | _ => false) && okA k x a && okO k lo lo' && okO k hi hi' && okO k mx mx' && (mx.isNone || hi.isSome)
  | .makeSlice t l c, .mks sz by' z l' c' =>
    (match P.underlying t with
      | some (.slice e) => (size? P e == some sz) && (bytes? P e == some by') && (match zero? P e with | some vs => okDs vs z && (vs.length == sz) | none => false)
      | _ => false) && okA k l l' && okA k c c' && decide (0 < sz)
  | .extract x i, .ext a j => okA k x a && i == j
  | .binOp op _ x y _, .bin op' a b => op == op' && okA k x a && okA k y b
  | .binOp op t x y _, .beq neg a b => (match op with | .eql => !neg | .neq => neg | _ => false) && (match P.underlying t with | some .bool => true | _ => false) && okA k x a && okA k y b
  | .binOp op t x y _, .isn neg a => (match y with | .const .nilIface => true | _ => false) && (match op with | .eql => !neg | .neq => neg | _ => false) && (match P.underlying t with | some (.interface _) => true | _ => false) && okA k x a
  | .binOp op t x y _, .eqa neg n a b =>
    (match op with | .eql => !neg | .neq => neg | _ => false) && (ints? P 9 t == some n) && isAggT P t && !(P.eqGuardType P.depth t) && okA k x a && okA k y b
  | .unOp op _ x, .un op' a => (op == op') && okA k x a
  | .convert s t x, .cvi kd a => (match P.underlying s, P.underlying t with | some (.int _), some (.int kd') => kd == kd' | _, _ => false) && okA k x a
  | .convert s t x, .cvs a => (match P.underlying s, P.underlying t with | some .string, some .string => true | _, _ => false) && okA k x a
  | .convert s t x, .s2b a => (match P.underlying s, P.underlying t with | some .string, some (.slice e) => (match P.underlying e with | some (.int .u8) => true | _ => false) | _, _ => false) && okA k x a
  | .convert s t x, .b2s a => (match P.underlying s, P.underlying t with | some (.slice e), some .string => (match P.underlying e with | some (.int .u8) => true | _ => false) | _, _ => false) && okA k x a
  | .makeInterface t x, .mki a => (match P.underlying t with | some (.interface _) => false | some _ => true | none => false) && okA k x a
  | .nilCheck x, .nlc a => okA k x a
  | .makeFunc (.func f) first caps, .mkf f' first' caps' => f == f' && okAs k first.toList first' && okAs k caps.toList caps'
  | .call c, .vc f' args' | .call c, .pc f' args' => (match c.callee with | .value (.func f) => f == f' | _ => false) && okAs k c.args.toList args'
  | .call c, .hc f' args' => (match c.callee with | .value f => okA k f f' | _ => false) && okAs k c.args.toList args'
  | .call c, .len a =>
    (match c.callee, c.argTypes[0]? with
      | .builtin .len, some t => (match P.underlying t with | some (.slice _) => true | _ => false)
      | _, _ => false) && okAs k c.args.toList [a]
  | .call c, .lns a =>
    (match c.callee, c.argTypes[0]? with
      | .builtin .len, some t => (match P.underlying t with | some .string => true | _ => false)
      | _, _ => false) && okAs k c.args.toList [a]
  | .call c, .cap a =>
    (match c.callee, c.argTypes[0]? with
      | .builtin .cap, some t => (match P.underlying t with | some (.slice _) => true | _ => false)
      | _, _ => false) && okAs k c.args.toList [a]
  | .call c, .mm mx a b =>
    (match c.callee with | .builtin .max => mx | .builtin .min => !mx | _ => false) && okAs k c.args.toList [a, b]
  | .call c, .app sz a b =>
    (match c.callee, c.argTypes[0]?, c.argTypes[1]? with
      | .builtin .append, some t, some u => (match P.underlying t, P.underlying u with
        | some (.slice e), some (.slice _) | some (.slice e), some .string => (size? P e == some sz) && (match bytes? P e with | some n => decide (n ≤ 65536) | none => false) && (match zero? P e with | some vs => (vs.length == sz) && vs.all Value.oneCell' | none => false)
        | _, _ => false)
      | _, _, _ => false) && okAs k c.args.toList [a, b] && decide (0 < sz)
  | .call c, .apb a b =>
    (match c.callee, c.argTypes[0]?, c.argTypes[1]? with
      | .builtin .append, some t, some u => (match P.underlying t, P.underlying u with
        | some (.slice e), some (.slice _) | some (.slice e), some .string => (size? P e == some 1) && (match bytes? P e with | some n => decide (n ≤ 65536) | none => false) && (match zero? P e with | some vs => (vs.length == 1) && vs.all Value.oneCell' | none => false)
        | _, _ => false)
      | _, _, _ => false) && okAs k c.args.toList [a, b] && (match c.argTypes[0]? with | some t => (match P.underlying t with | some (.slice e) => e == u8T | _ => false) | none => false)
  | .call c, .apn sz b =>
    (match c.callee, c.argTypes[0]?, c.argTypes[1]? with
      | .builtin .append, some t, some u => (match P.underlying t, P.underlying u with
        | some (.slice e), some (.slice _) | some (.slice e), some .string => (size? P e == some sz) && (match bytes? P e with | some n => decide (n ≤ 65536) | none => false) && (match zero? P e with | some vs => (vs.length == sz) && vs.all Value.oneCell' | none => false)
        | _, _ => false)
      | _, _, _ => false) && (match c.args.toList with | [.const (.slice none 0 0), y] => okA k y b | _ => false) && decide (0 < sz)
  | .call c, .cpy sz a b =>
    (match c.callee, c.argTypes[0]? with
      | .builtin .copy, some t => (match P.underlying t with | some (.slice e) => (size? P e == some sz) | _ => false)
      | _, _ => false) && okAs k c.args.toList [a, b] && decide (0 < sz)
  | .makeMap _ none, .mkm => true
  | .mapUpdate t m x y, .mpu a b c => (match P.underlying t with | some (.map kt _) => (match P.underlying kt with | some .string => true | _ => false) | _ => false) && okA k m a && okA k x b && okA k y c
  | .lookup t m x ok, .lkp ok' z a b =>
    (match P.underlying t with
      | some (.map kt e) => (match P.underlying kt with | some .string => true | _ => false) && (match (P.info? e).bind (·.zero) with | some zv => okV zv z | none => false)
      | _ => false) && ok == ok' && okA k m a && okA k x b
  | .call c, .lnm a =>
    (match c.callee, c.argTypes[0]? with
      | .builtin .len, some t => (match P.underlying t with | some (.map _ _) => true | _ => false)
      | _, _ => false) && okAs k c.args.toList [a]
  | _, _ => false
end
def bindMask (o : Oper) : Nat := o.after.toList.foldl (fun m e => if Region.binds .any e then m ||| 2 ^ e.on else m) 0
def clo1 (prev : List Nat) (o : Oper) : Nat := o.after.toList.foldl (fun m e => if Region.binds .any e then m ||| 2 ^ e.on ||| prev.getD e.on 0 else m) 0
def clos : List Oper → List Nat → List Nat
  | [], acc => acc
  | o :: os, acc => clos os (acc ++ [clo1 acc o])
def partner (ops : List Oper) (ps : List Gp) (i : Nat) : Option Nat :=
  match ops[i]?, ps[i]? with
  | some o, some p => match o.op, p.op with
    | .store _ (.tmp t) _, .ini _ _ => (List.range i).find? fun j => match ops[j]?, ps[j]? with
      | some o', some p' => o'.dst == some t && (match p'.op with | .pre => true | _ => false)
      | _, _ => false
    | _, _ => none
  | _, _ => none
def locOf (ops : List Oper) (ps : List Gp) (i : Nat) : Option Nat :=
  match ops[i]?, ps[i]? with
  | some o, some p => match p.op with
    | .pre => none
    | .ini _ _ => match partner ops ps i with
      | some a => match ops[a]? with
        | some o' => o'.dst
        | none => none
      | none => none
    | _ => o.dst
  | _, _ => none
def noHeap : O → Bool
  | .mov _ | .pick .. | .bin .. | .beq .. | .isn .. | .eqa .. | .un .. | .cvi .. | .cvs .. | .bld .. | .fa .. | .fld .. | .ixp .. | .ixa .. | .len _ | .lns _ | .cap _ | .slc .. | .ixs .. | .ixg .. | .sls .. | .ext .. | .mm .. | .mkf .. | .mki .. | .nlc _ | .pre => true
  | _ => false
def atEnd (n i : Nat) : A → A
  | .l k => .l (k + (n - i))
  | a => a
def inAps (n i j : Nat) (p q : O) (aps : List (A × A)) : Bool :=
  match p, q with
  | .ld _ _ a, .st _ b _ => aps.any fun (x, y) => eqA x (atEnd n i a) && eqA y (atEnd n j b)
  | _, _ => false
  where eqA : A → A → Bool
  | .r j, .r k => j == k
  | .l j, .l k => j == k
  | _, _ => false
def regsOf : List Operand → List Nat
  | [] => []
  | .tmp t :: xs => t :: regsOf xs
  | _ :: xs => regsOf xs
def okGuard (i : Nat) : Option (Nat × Bool) → Option (Nat × Bool) → Bool
  | none, none => true
  | some (g, b), some (k, b') => decide (k < i) && g == i - 1 - k && b == b'
  | _, _ => false
def ahead (draw : Bool) (cl : List Nat) (i j : Nat) : Bool :=
  decide (i < j) && (!draw || (cl.getD j 0).testBit i)
def okOne (P : Program) (tm : List Nat) (nt : Nat) (draw : Bool) (cl : List Nat) (ops : List Oper) (ps : List Gp) (loc raw : List (Option Nat)) (aps : List (A × A)) (i : Nat) (o : Oper) (p : Gp) : Bool :=
  let n := ops.length
  let k : K := ⟨i, tm, loc, raw, fun j => ahead draw cl j i⟩
  (match p.op with
    | .ini m a => (match partner ops ps i with
      | some j => decide (0 < m) && (match o.op with | .store t _ y => (size? P t == some m) && okA k y a | _ => false) && o.guard.isNone && ahead draw cl j i && (List.range n).all (fun i' => i' == i || partner ops ps i' != some j) &&
          (match ops[j]? with | some o' => (match o'.op, o.op with | .alloc t, .store t' _ _ => size? P t == size? P t' && (match zero? P t with | some vs => some vs.length == size? P t | none => false) | _, _ => false) && o'.guard.isNone | none => false)
      | none => false)
    | q => okOp P k o q) &&
  okGuard i o.guard p.guard && (match p.guard with | some (g, _) => ahead draw cl (i - 1 - g) i && (match ops[i - 1 - g]? with | some o' => (match loc[i - 1 - g]? with | some l => l.isSome && o'.dst == l | none => false) | none => false) | none => true) &&
  (match o.dst with | some t => decide (t < nt) && ((raw.take i).all (· != some t)) | none => true) &&
  (regsOf o.op.operands.toList).all (fun t => (List.range n).all fun j => j == i || !((raw.getD j none) == some t) || ahead draw cl j i || ahead draw cl i j) &&
  o.after.all (fun e => !Region.binds .any e || decide (e.on < i)) &&
  (match o.op with | .select .. | .defer _ | .go _ => false | _ => true) &&
  (if p.op.eff then (List.range n).all (fun j => j == i || (match ps[j]? with
      | some q => noHeap q.op || ahead draw cl i j || ahead draw cl j i || inAps n j i q.op p.op aps
      | none => true)) else true)
def okAll (P : Program) (tm : List Nat) (nt : Nat) (draw : Bool) (cl : List Nat) (ops : List Oper) (ps : List Gp) (loc raw : List (Option Nat)) (aps : List (A × A)) : Nat → List Oper → List Gp → Bool
  | _, [], [] => true
  | i, o :: os, p :: qs => okOne P tm nt draw cl ops ps loc raw aps i o p && okAll P tm nt draw cl ops ps loc raw aps (i + 1) os qs
  | _, _, _ => false
def okExp (tm : List Nat) (loc raw : List (Option Nat)) (n : Nat) (exp : List (Nat × Nat)) : Bool :=
  (exp.all fun (j, k) => decide (k < n) && (match tm[j]?, loc[n - 1 - k]? with | some t, some (some t') => t == t' | _, _ => false)) &&
  (List.range tm.length).all fun j => match tm[j]? with
    | some t => !(raw.contains (some t)) || exp.any fun (j', _) => j == j'
    | none => true
def okReg (P : Program) (tm : List Nat) (nt : Nat) (draw : Bool) (ops : List Oper) (ps : List Gp) (exp : List (Nat × Nat)) (aps : List (A × A)) : Bool :=
  let n := ops.length
  let loc := (List.range n).map (locOf ops ps)
  let raw := ops.map (·.dst)
  okAll P tm nt draw (clos ops []) ops ps loc raw aps 0 ops ps && okExp tm loc raw n exp && (!draw || P.follows .mixedOrders)
def once : List Nat → Bool
  | [] => true
  | t :: ts => !(ts.contains t) && once ts
def okI (P : Program) (tm : List Nat) (nt : Nat) : I → Code → Bool
  | .skip, .skip => true
  | .seq (.keep _) b, c => okI P tm nt b c
  | .seq (.fresh _ _ _) b, c => okI P tm nt b c
  | .seq (.freshb _ _) b, c => okI P tm nt b c
  | .seq a b, .seq c d => okI P tm nt a c && okI P tm nt b d
  | .reg draw ps exp aps, .region _ ops draw' => draw == draw' && okReg P tm nt draw ops.toList ps exp aps
  | .cond c a b, .cond x y z => okA ⟨0, tm, [], [], fun _ => true⟩ x c && okI P tm nt a y && okI P tm nt b z
  | .block i b, .block i' c => i == i' && okI P tm nt b c
  | .loop _ b, .loop c => okI P tm nt b c
  | .rf f ps asg body, .rangeFunc g params c d => okA ⟨0, tm, [], [], fun _ => true⟩ g f && (ps.map (fun j => tm[j]?) == params.toList.map some) && once tm && tm.all (fun t => decide (t < nt)) && okI P tm nt asg c && okI P tm nt body d
  | .exit i, .exit i' => i == i'
  | .ret, .ret => true
  | _, _ => false
def okRv (P : Program) (tm : List Nat) : Rv → ResultVar → Bool
  | .r j, .tmp t => tm[j]? == some t
  | .cell j n g, .cell t ty => (tm[j]? == some t) && (size? P ty == some n) && (agg? P ty == some g) && decide (0 < n)
  | _, _ => false
def okRvs (P : Program) (tm : List Nat) : List Rv → List ResultVar → Bool
  | [], [] => true
  | a :: as, b :: bs => okRv P tm a b && okRvs P tm as bs
  | _, _ => false
def okFn (P : Program) (F : Fn) (fn : Func) : Bool :=
  decide (F.np = fn.params.size + fn.nfree) && decide (F.tm.length = F.nr) && decide (F.np ≤ F.nr) && decide (F.tm.take F.np = List.range F.np) && once F.tm && F.tm.all (fun t => decide (t < fn.ntmps)) &&
  okRvs P F.tm F.res fn.results.toList && (match fn.body with | some c => okI P F.tm fn.ntmps F.body c | none => false)
end Mini
end Go.Proofs.YtgjlofpfbhioaaaGreatDoor
namespace Go.Proofs.YtgjlofpfbhioaaaGreatDoor
namespace Mini
open Go
mutual
theorem RelV.mono {M M' : MM} (h : Ext M M') : ∀ {x : V} {v : Value}, RelV M x v → RelV M' x v
  | .c _, _, r => by simp only [RelV] at r ⊢; exact RelC.mono h r
  | .agg cs, _, r => by
    simp only [RelV] at r ⊢
    obtain ⟨arr, rfl, h1, h2⟩ := r
    exact ⟨arr, rfl, h1, RelCs.mono h h2⟩
  | .tup vs, _, r => by
    simp only [RelV] at r ⊢
    obtain ⟨arr, rfl, h1, h2⟩ := r
    exact ⟨arr, rfl, h1, RelVs.mono h h2⟩
  | .any, _, _ => by simp only [RelV]
theorem RelVs.mono {M M' : MM} (h : Ext M M') : ∀ {xs : List V} {vs : List Value}, RelVs M xs vs → RelVs M' xs vs
  | [], _, _ => RelVs.nil _ _
  | _ :: _, [], r => by simp only [RelVs] at r
  | _ :: _, _ :: _, r => by
    simp only [RelVs] at r ⊢
    exact ⟨RelV.mono h r.1, RelVs.mono h r.2⟩
end
def MM.Owns (M : MM) (B : Nat) : Prop := ∃ id b c, M.loc id = some (some (B, b, c))
def jump : Ex → Option Code
  | .nrm => none
  | .exit i => some (.exit i)
  | .ret => some .ret
def RelRegs (M : MM) (tm : List Nat) (regs : List V) (tmps : Array Value) : Prop :=
  ∀ (j t : Nat), tm[j]? = some t → RelV M (nth regs j) (tmps.getD t undef)
def Thawed (fr : Nat × Nat) (n : Nat) : Prop := ∀ i, i < n → ¬ (fr.1 ≤ i ∧ i < fr.2)
def RowSat (M : MM) (w : World) (base : Nat) (cs : List C) (fz : Bool) (B b0 bs : Nat) : Prop :=
  ∃ arr T fr, w.heap[B]? = some (.cells arr T fr) ∧ arr.size = bs ∧ b0 + cs.length ≤ bs ∧ RelCs M cs (arr.toList.drop b0) ∧
    ((base ≤ B ∧ M.imm B = none ∧ Thawed fr bs ∧ ∀ u ∈ arr.toList, u.oneCell' = true) ∨ (fz = true ∧ M.imm B = some (.cells arr T fr)))
def LoopSat (P : Program) (M : MM) (w : World) (base : Nat) (ready : Bool) (pend : Option Ex) (regs : List V) (ps : List Nat) (asg body : I) (B : Nat) : Prop :=
  ∃ L : Loop, w.heap[B]? = some (.loop L) ∧ base ≤ B ∧ M.imm B = none ∧
    (match ready, pend with
      | true, none => L.state = .ready ∧ L.pending = none
      | false, none => L.state = .busy
      | false, some e => L.state = .done ∧ L.pending = jump e ∧ e ≠ .nrm
      | _, _ => False) ∧
    ∃ tm nt, okI P tm nt asg L.assign = true ∧ okI P tm nt body L.body = true ∧ ps.map (fun j => tm[j]?) = L.params.toList.map some ∧
      RelRegs M tm regs L.tmps ∧ once tm = true ∧ L.tmps.size = nt ∧ tm.all (fun t => decide (t < nt)) = true
def RelM (M : MM) : List (V × V) → List MapEntry → Prop
  | [], [] => True
  | e :: es, x :: xs => RelV M e.1 x.key ∧ RelV M e.2 x.val ∧ e.1.closed = true ∧ RelM M es xs
  | _, _ => False
def MapSat (M : MM) (w : World) (base : Nat) (es : List (V × V)) (B : Nat) : Prop :=
  ∃ xs clock, w.heap[B]? = some (.map xs clock) ∧ base ≤ B ∧ M.imm B = none ∧ RelM M es xs.toList
theorem RelM.mono {M M' : MM} (h : Ext M M') : ∀ {es : List (V × V)} {xs : List MapEntry}, RelM M es xs → RelM M' es xs
  | [], [], _ => by simp only [RelM]
  | [], _ :: _, r => by simp only [RelM] at r
  | _ :: _, [], r => by simp only [RelM] at r
  | _ :: _, _ :: _, r => by
    simp only [RelM] at r ⊢
    exact ⟨RelV.mono h r.1, RelV.mono h r.2.1, r.2.2.1, RelM.mono h r.2.2.2⟩
def ObSat (P : Program) (M : MM) (w : World) (base : Nat) (id : Nat) : Ob → Option (Nat × Nat × Nat) → Prop
  | .cells cs g _, none => cs = [] ∧ M.gen id = g
  | .cells cs g fz, some (B, b0, bs) => M.gen id = g ∧ RowSat M w base cs fz B b0 bs
  | .loop ready pend regs ps asg body, some (B, _, _) => M.gen id = 0 ∧ LoopSat P M w base ready pend regs ps asg body B
  | .map es, some (B, _, _) => M.gen id = 0 ∧ MapSat M w base es B
  | _, _ => False
structure Sat (P : Program) (M : MM) (H : Heap) (base : Nat) (w : World) : Prop where
  n : M.n = H.length
  out : ∀ id, M.n ≤ id → M.loc id = none ∧ M.gen id = 0
  imm : ∀ B o, M.imm B = some o → w.heap[B]? = some o
  obj : ∀ id l, M.loc id = some l → ∃ o, ob? H id = some o ∧ ObSat P M w base id o l
  idle : ∀ id o, ob? H id = some o → M.loc id = none → o = .dead ∨ M.gen id = 0
  inj : ∀ id id' B b c b' c', M.loc id = some (some (B, b, c)) → M.loc id' = some (some (B, b', c')) → id = id'
  ty : ∀ B t, M.ty B = some t → ∃ arr fr, w.heap[B]? = some (.cells arr t fr)
  bty : ∀ id B b c, M.loc id = some (some (B, b, c)) → genK ≤ M.gen id → M.ty B = some u8T ∧ b = 0
structure Fr (M M' : MM) (w w' : World) : Prop where
  ext : Ext M M'
  os : w'.os = w.os
  tape : w'.tape = w.tape
  output : w'.output = w.output
  size : w.heap.size ≤ w'.heap.size
  keep : ∀ B : Nat, B < w.heap.size → ¬ M.Owns B → w'.heap[B]? = w.heap[B]?
  own : ∀ B, M'.Owns B → M.Owns B ∨ w.heap.size ≤ B
  imm : ∀ B o, M'.imm B = some o → M.imm B = some o ∨ M.Owns B ∨ w.heap.size ≤ B
theorem Fr.refl (M : MM) (w : World) : Fr M M w w := ⟨Ext.refl M, rfl, rfl, rfl, Nat.le_refl _, fun _ _ _ => rfl, fun _ h => .inl h, fun _ _ h => .inl h⟩
theorem Fr.trans {A B D : MM} {u v w : World} (h : Fr A B u v) (k : Fr B D v w) : Fr A D u w where
  ext := h.ext.trans k.ext
  os := k.os.trans h.os
  tape := k.tape.trans h.tape
  output := k.output.trans h.output
  size := Nat.le_trans h.size k.size
  keep := fun b hb hn => by
    rw [k.keep b (Nat.lt_of_lt_of_le hb h.size) (fun ho => (h.own b ho).elim hn (fun h' => by omega))]
    exact h.keep b hb hn
  own := fun b ho => (k.own b ho).elim (fun h' => h.own b h') (fun h' => .inr (Nat.le_trans h.size h'))
  imm := fun b o ho => by
    rcases k.imm b o ho with h' | h' | h'
    · exact h.imm b o h'
    · exact .inr (h.own b h')
    · exact .inr (.inr (Nat.le_trans h.size h'))
theorem Fr.drew (M : MM) (w : World) : Fr M M w w.drew := ⟨Ext.refl M, rfl, rfl, rfl, Nat.le_refl _, fun _ _ _ => rfl, fun _ h => .inl h, fun _ _ h => .inl h⟩
theorem Sat.block_lt {P : Program} {M : MM} {H : Heap} {base : Nat} {w : World} (h : Sat P M H base w) {B : Nat} (ho : M.Owns B) : B < w.heap.size := by
  obtain ⟨id, b, c, hl⟩ := ho
  obtain ⟨o, _, hs⟩ := h.obj id _ hl
  have key : ∀ x, w.heap[B]? = some x → B < w.heap.size := fun x hx => (Array.getElem?_eq_some_iff.1 hx).1
  cases o <;> simp only [ObSat] at hs
  · obtain ⟨_, arr, T, fr, h1, _⟩ := hs; exact key _ h1
  · obtain ⟨_, L, h1, _⟩ := hs; exact key _ h1
  · obtain ⟨_, xs, cl, h1, _⟩ := hs; exact key _ h1
theorem Sat.id_lt {P : Program} {M : MM} {H : Heap} {base : Nat} {w : World} (h : Sat P M H base w) {id : Nat} {l : Option (Nat × Nat × Nat)} (hl : M.loc id = some l) : id < M.n := by
  rcases Nat.lt_or_ge id M.n with h' | h'
  · exact h'
  · rw [(h.out id h').1] at hl; cases hl
theorem ObSat.keep {P : Program} {M M' : MM} {w w' : World} {base : Nat} {id : Nat} {o : Ob} {l : Option (Nat × Nat × Nat)} (he : Ext M M') (hg : M'.gen id = M.gen id)
    (hb : ∀ B b c : Nat, l = some (B, b, c) → w'.heap[B]? = w.heap[B]? ∧ (M.imm B = none → M'.imm B = none))
    (_hd : ∀ B : Nat, w.heap[B]? = some (Obj.deferred (some [])) → w'.heap[B]? = some (Obj.deferred (some [])))
    (h : ObSat P M w base id o l) : ObSat P M' w' base id o l := by
  cases o with
  | dead => cases l <;> simp [ObSat] at h
  | cells cs g fz =>
    cases l with
    | none => simp only [ObSat] at h ⊢; rw [hg]; exact h
    | some l =>
      obtain ⟨B, b0, bs⟩ := l
      obtain ⟨h1, h2⟩ := hb B b0 bs rfl
      simp only [ObSat] at h ⊢
      obtain ⟨hgen, arr, T, fr, h3, h4, h5, h6, h7⟩ := h
      refine ⟨by rw [hg]; exact hgen, arr, T, fr, by rw [h1]; exact h3, h4, h5, RelCs.mono he h6, ?_⟩
      rcases h7 with ⟨h7, h8, h9⟩ | ⟨h7, h8⟩
      · exact .inl ⟨h7, h2 h8, h9⟩
      · exact .inr ⟨h7, he.imm _ _ h8⟩
  | loop ready pend regs ps asg body =>
    cases l with
    | none => simp [ObSat] at h
    | some l =>
      obtain ⟨B, Db, bs⟩ := l
      obtain ⟨h1, h2⟩ := hb B Db bs rfl
      simp only [ObSat] at h ⊢
      obtain ⟨hgen, L, h3, h4, h5, h8, tm, nt, h9, h10, h11, h12, h13⟩ := h
      exact ⟨by rw [hg]; exact hgen, L, by rw [h1]; exact h3, h4, h2 h5, h8, tm, nt, h9, h10, h11, fun j t ht => RelV.mono he (h12 j t ht), h13⟩
  | bld s => cases l <;> simp [ObSat] at h
  | map es =>
    cases l with
    | none => simp [ObSat] at h
    | some l =>
      obtain ⟨B, Db, bs⟩ := l
      obtain ⟨h1, h2⟩ := hb B Db bs rfl
      simp only [ObSat] at h ⊢
      obtain ⟨hgen, xs, cl, h3, h4, h5, h6⟩ := h
      exact ⟨by rw [hg]; exact hgen, xs, cl, by rw [h1]; exact h3, h4, h2 h5, RelM.mono he h6⟩
end Mini
end Go.Proofs.YtgjlofpfbhioaaaGreatDoor
