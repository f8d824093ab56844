/-
  Vx, part b: the executor.
-/
import Derived.Test.YthdjomfkechfoaaVa
import Derived.Laws.BytesArg
namespace Go.Proofs.Ythdjomfkechfoaa.Vx
open Go

/-! ### what an operation answers -/
def ibits (op : BinOp) (k : IntKind) (x y : Int) : Int :=
  match op with
  | .and => k.wrap (BitVec.ofInt k.bits x &&& BitVec.ofInt k.bits y).toNat
  | .or => k.wrap (BitVec.ofInt k.bits x ||| BitVec.ofInt k.bits y).toNat
  | .xor => k.wrap (BitVec.ofInt k.bits x ^^^ BitVec.ofInt k.bits y).toNat
  | _ => k.wrap (BitVec.ofInt k.bits x &&& ~~~ BitVec.ofInt k.bits y).toNat

def ishl (k : IntKind) (x y : Int) : Int := k.wrap (x * 2 ^ (min y.toNat k.bits))
def ishr (k : IntKind) (x y : Int) : Int := x.fdiv (2 ^ (min y.toNat k.bits))
def imin (x y : Int) : Int := bif decide (y < x) then y else x
def imax (x y : Int) : Int := bif decide (x < y) then y else x

def AV.int (k : IntKind) (n : Int) : AV := .dat (.sc (.int k)) n
def AV.bool (b : Bool) : AV := .dat (.sc .bool) b

mutual
def CT.eqable : CT → Bool
  | .sl _ => false
  | _ => true
def Lay.eqable : Lay → Bool
  | .one c => c.eqable
  | .cons c l => c.eqable && l.eqable
end

def CT.eqb : (c : CT) → c.den → c.den → Bool
  | .int _, a, b => (show Int from a) == (show Int from b)
  | .bool, a, b => (show Bool from a) == (show Bool from b)
  | .str, a, b => (show ByteArray from a) == (show ByteArray from b)
  | .sl _, _, _ => false

def Lay.eqb : (l : Lay) → l.den → l.den → Bool
  | .one c, a, b => c.eqb a b
  | .cons c l, a, b => c.eqb a.1 b.1 && Lay.eqb l a.2 b.2

section
variable {R : Type}

structure Env where
  ty : TypeId → Option TY
  fld : TypeId → Option (List (Nat × TY))
  el : TypeId → Option (TY × Nat)
  eqT : TypeId → Option Lay
  sum : Nat → Option Summ
  body : Nat → Option Body
  cut : List Nat → Bool

def aBin (E : Env) (op : BinOp) (t : TypeId) (x y : AV) (k : AV → Option R) : Option R :=
  match x.int?, y.int? with
  | some (kx, a), some (ky, b) =>
    match op with
    | .shl => bif decide (b < 0) then none else k (.int kx (ishl kx a b))
    | .shr => bif decide (b < 0) then none else k (.int kx (ishr kx a b))
    | .eql => bif kbeq kx ky then k (.bool (a == b)) else none
    | .neq => bif kbeq kx ky then k (.bool (a != b)) else none
    | .lss => bif kbeq kx ky then k (.bool (decide (a < b))) else none
    | .leq => bif kbeq kx ky then k (.bool (decide (a ≤ b))) else none
    | .gtr => bif kbeq kx ky then k (.bool (decide (a > b))) else none
    | .geq => bif kbeq kx ky then k (.bool (decide (a ≥ b))) else none
    | .add => bif kbeq kx ky then k (.int kx (kx.wrap (a + b))) else none
    | .sub => bif kbeq kx ky then k (.int kx (kx.wrap (a - b))) else none
    | .mul => bif kbeq kx ky then k (.int kx (kx.wrap (a * b))) else none
    | .quo => bif kbeq kx ky then (bif decide (b = 0) then none else k (.int kx (kx.wrap (a.tdiv b)))) else none
    | .rem => bif kbeq kx ky then (bif decide (b = 0) then none else k (.int kx (a.tmod b))) else none
    | .and => bif kbeq kx ky then k (.int kx (ibits .and kx a b)) else none
    | .or => bif kbeq kx ky then k (.int kx (ibits .or kx a b)) else none
    | .xor => bif kbeq kx ky then k (.int kx (ibits .xor kx a b)) else none
    | .andNot => bif kbeq kx ky then k (.int kx (ibits .andNot kx a b)) else none
  | _, _ =>
    match x.bool?, y.bool?, E.ty t with
    | some a, some b, some (.sc .bool) =>
      match op with
      | .eql => k (.bool (a == b))
      | .neq => k (.bool (!(a == b)))
      | _ => none
    | _, _, _ =>
      match x with
      | .dat (.st l) a =>
        match y.to (.st l), E.eqT t with
        | some b, some l' =>
          bif l.beq l' then
            match op with
            | .eql => k (.bool (Lay.eqb l a b))
            | .neq => k (.bool (!(Lay.eqb l a b)))
            | _ => none
          else none
        | _, _ => none
      | .dat (.sc .str) a =>
        match y.to (.sc .str), E.ty t with
        | some b, some (.sc .str) =>
          match op with
          | .eql => k (.bool (BEq.beq (α := ByteArray) a b))
          | .neq => k (.bool (!(BEq.beq (α := ByteArray) a b)))
          | _ => none
        | _, _ => none
      | _ => none

def bytesOf (s : ByteArray) : List Int := s.data.toList.map fun b => (b.toNat : Int)

/-- A list behind a slice value. -/
def AV.list (v : AV) (l : Lay) : Option (List l.den) := v.to (.sc (.sl l))

def AV.lenAt (a : AV) : TY → Option Int
  | .sc (.sl l) => match a.to (.sc (.sl l)) with
    | some xs => some (List.length (α := l.den) xs : Int)
    | none => none
  | .sc .str => match a.to (.sc .str) with
    | some s => some (ByteArray.size s : Int)
    | none => none
  | _ => none

def setFields (fs : List (Nat × TY)) (l : Lay) (ev : Operand → AV) : List (Nat × Operand) → l.den → Option l.den
  | [], x => some x
  | (i, o) :: ps, x =>
    match fs[i]? with
    | none => none
    | some (off, t) =>
      match (ev o).to t with
      | none => none
      | some y => match Lay.set l x off t.lay y with
        | none => none
        | some x' => setFields fs l ev ps x'

def setElems (t : TY) (ev : Operand → AV) : List (Nat × Operand) → List t.den → Option (List t.den)
  | [], xs => some xs
  | (i, o) :: ps, xs =>
    match (ev o).to t with
    | none => none
    | some y => bif Nat.blt i xs.length then setElems t ev ps (xs.set i y) else none

/-- The fields of a struct value at a type of cells. -/
def aCallB (E : Env) (b : Builtin) (argTypes : Array TypeId) (as : List AV) (h : H) (k : AV → H → Option R) : Option R :=
  match b, as with
  | .len, [x] => match argTypes.toList with
    | t :: _ => match E.ty t with
      | some y => match x.lenAt y with
        | some n => k (.int .i64 n) h
        | none => none
      | none => none
    | [] => none
  | .min, x :: ys => minmax imin x ys h k
  | .max, x :: ys => minmax imax x ys h k
  | .append, [s, x] =>
    match argTypes.toList with
    | [ts, tx] => match E.el ts, E.el tx with
      | some (te, bytes), some _ =>
        match s.list te.lay, x.list te.lay with
        | some xs, some ys =>
          bif decide ((xs.length + ys.length) * bytes ≤ 140737488355328) then
            match s with
            | .osl _ _ t => bif h.tok t then k (.osl te.lay (xs ++ ys) h.nt) (h.spend t).fresh else none
            | .fsl _ _ => k (.osl te.lay (xs ++ ys) h.nt) h.fresh
            | .con _ => k (.osl te.lay (xs ++ ys) h.nt) h.fresh
            | _ => none
          else none
        | _, _ => none
      | _, _ => none
    | _ => none
  | _, _ => none
where
  minmax (f : Int → Int → Int) : AV → List AV → H → (AV → H → Option R) → Option R
    | x, [], h, k => match x.int? with
      | some (kx, a) => k (.int kx a) h
      | none => none
    | x, y :: ys, h, k => match x.int?, y.int? with
      | some (kx, a), some (ky, b) => bif kbeq kx ky then minmax f (.int kx (f a b)) ys h k else none
      | _, _ => none

def aPick (x : Bool) (a b : AV) (h : H) (k : AV → H → Option R) : Option R :=
  match a.bool?, b.bool? with
  | some p, some q => k (.bool (bif x then p else q)) h
  | _, _ => bif x then k a h else k b h

def sliceKind (l : Lay) (x : AV) (full : Bool) (hiGiven : Bool) (xs : List l.den) : AV :=
  bif full then .fsl l xs else
  bif hiGiven then .dat (.sc (.sl l)) xs else
  match x with
  | .osl _ _ t => .osl l xs t
  | .fsl _ _ => .fsl l xs
  | _ => .dat (.sc (.sl l)) xs

def aSlice (te : TY) (x : AV) (lo hi mx : Option AV) (h : H) (k : AV → H → Option R) : Option R :=
  match x.list te.lay with
  | none => none
  | some xs =>
    let bound (v : Option AV) (d : Int) : Option Int := match v with
      | none => some d
      | some v => match v.int? with
        | some (_, n) => some n
        | none => none
    match bound lo 0, bound hi (xs.length : Int), bound mx (-1) with
    | some l, some u, some m =>
      bif decide (0 ≤ l) && (decide (l ≤ u) && decide (u ≤ (xs.length : Int))) then
        match mx with
        | none => k (sliceKind te.lay x false hi.isSome ((xs.drop l.toNat).take (u - l).toNat)) h
        | some _ => match hi with
          | some _ => bif decide (m = u) then k (sliceKind te.lay x true true ((xs.drop l.toNat).take (u - l).toNat)) h else none
          | none => none
      else none
    | _, _, _ => none

def aOp (E : Env) (key : Key) (ev : Operand → AV) (o : Oper) (h : H) (k : AV → H → Option R) : Option R :=
  match o.op with
  | .move x | .assign x =>
    match ev x with
    | .con (.slice none 0 0) => match E.ty o.type with
      | some (.sc (.sl l)) => k (.fsl l []) h
      | _ => k (.con (.slice none 0 0)) h
    | v => k v h
  | .pick c a b => match (ev c).bool? with
    | some x => aPick x (ev a) (ev b) h k
    | none => none
  | .alloc t => match E.ty t, h.blk key with
    | some ty, none => k (.ptr key 0) (h.setBlk key ⟨ty.lay, ty.lay.zero⟩)
    | _, _ => none
  | .box t x => match E.ty t, h.blk key with
    | some ty, none => match (ev x).to ty with
      | some y => k (.ptr key 0) (h.setBlk key ⟨ty.lay, y⟩)
      | none => none
    | _, _ => none
  | .build t parts => match E.ty t, E.fld t with
    | some (.st l), some fs => match setFields fs l ev parts.toList l.zero with
      | some x => k (.dat (.st l) x) h
      | none => none
    | _, _ => none
  | .buildSlice t n parts => match E.el t with
    | some (te, _) => bif Nat.ble (n * te.lay.size) 16777216 then
        match setElems te ev parts.toList (List.replicate n te.lay.zero) with
        | some xs => k (.fsl te.lay xs) h
        | none => none
      else none
    | none => none
  | .load t a => match E.ty t with
    | some ty => match ev a with
      | .ptr q off => match h.blk q with
        | some b => match Lay.get b.lay b.x off ty.lay with
          | some y => k (.dat ty y) h
          | none => none
        | none => none
      | .ept l x off => match Lay.get l x off ty.lay with
        | some y => k (.dat ty y) h
        | none => none
      | _ => none
    | none => none
  | .store t a x => match E.ty t, ev a with
    | some ty, .ptr q off => match h.blk q, (ev x).to ty with
      | some b, some y => match Lay.set b.lay b.x off ty.lay y with
        | some z => k (.con undef) (h.setBlk q ⟨b.lay, z⟩)
        | none => none
      | _, _ => none
    | _, _ => none
  | .nilCheck x => match ev x with
    | .ptr q off => k (.ptr q off) h
    | .ept l x off => k (.ept l x off) h
    | _ => none
  | .binOp op t x y _ => aBin E op t (ev x) (ev y) fun v => k v h
  | .unOp op _ x =>
    match op with
    | .neg => match (ev x).int? with
      | some (kx, a) => k (.int kx (kx.wrap (0 - a))) h
      | none => none
    | .xor => match (ev x).int? with
      | some (kx, a) => k (.int kx (ibits .xor kx (if kx.signed then -1 else kx.max) a)) h
      | none => none
    | .not => match (ev x).bool? with
      | some b => k (.bool (!b)) h
      | none => none
    | .plus => none
  | .convert src dst x =>
    match E.ty src, E.ty dst with
    | some (.sc .str), some (.sc (.sl (.one (.int .u8)))) => match (ev x).to (.sc .str) with
      | some s => k (.dat (.sc (.sl (.one (.int .u8)))) (bytesOf s)) h
      | none => none
    | some (.sc (.sl (.one (.int .u8)))), some (.sc .str) => match (ev x).list (.one (.int .u8)) with
      | some xs => k (.dat (.sc .str) (strOfNums xs)) h
      | none => none
    | some _, some (.sc (.int kd)) => match (ev x).int? with
      | some (_, n) => k (.int kd (kd.wrap n)) h
      | none => none
    | _, _ => none
  | .makeSlice t lo ca => match E.el t, (ev lo).int?, (ev ca).int? with
    | some (te, bytes), some (_, l), some (_, c) =>
      bif decide (0 ≤ l) && (decide (l ≤ c) && decide ((bytes : Int) * c ≤ 281474976710656)) then k (.osl te.lay (List.replicate l.toNat te.lay.zero) h.nt) h.fresh else none
    | _, _, _ => none
  | .slice t x lo hi mx => match E.el t with
    | some (te, _) => aSlice te (ev x) (lo.map ev) (hi.map ev) (mx.map ev) h k
    | none => none
  | .fieldAddr t x i => match E.fld t with
    | some fs => match fs[i]? with
      | some (off, _) => match ev x with
        | .ptr q o' => k (.ptr q (o' + off)) h
        | .ept l y o' => k (.ept l y (o' + off)) h
        | _ => none
      | none => none
    | none => none
  | .field t x i => match E.fld t, ev x with
    | some fs, .dat (.st l) y => match fs[i]? with
      | some (off, ft) => match Lay.get l y off ft.lay with
        | some z => k (.dat ft z) h
        | none => none
      | none => none
    | _, _ => none
  | .indexAddr t x i => match E.el t, (ev i).int? with
    | some (te, _), some (_, n) => match (ev x).list te.lay with
      | some xs => (getI xs n).bind fun e => k (.ept te.lay e 0) h
      | none => none
    | _, _ => none
  | .extract t i => match ev t with
    | .tup vs => match vs[i]? with
      | some v => k v h
      | none => none
    | _ => none
  | .makeFunc (.func f) first captured => bif first.isEmpty then k (.fn f (captured.toList.map ev)) h else none
  | .call c => match c.callee with
    | .builtin b => aCallB E b c.argTypes (c.args.toList.map ev) h k
    | _ => none
  | _ => none

/-! ### frames -/
inductive AI where
  | code (p : List Nat) (c : Code)
  | inLoop (p : List Nat) (c : Code)
  | inBlock (p : List Nat) (id : Nat)
  | inReg (ops : Array Oper) (rest : List (Oper × Nat)) (p : List Nat) (rid : Nat)

structure AF where
  f : Nat
  n : Nat
  path : Key
  res : List ResultVar
  tm : Nat → AV
  todo : List AI

def ofConst : Value → AV
  | .int k n => .int k n
  | .bool b => .bool b
  | .string s => .dat (.sc .str) s
  | v => .con v

def evalA (tm : Nat → AV) : Operand → AV
  | .tmp t => tm t
  | .const v => ofConst v
  | .func f => .fn f []
  | .global _ => .undef

def putA (tm : Nat → AV) (dst : Option Nat) (v : AV) : Nat → AV :=
  match dst with
  | some d => fun i => bif Nat.beq i d then v else tm i
  | none => tm

def dstOk (dst : Option Nat) (n : Nat) : Bool :=
  match dst with
  | some d => Nat.blt d n
  | none => true

def aExit (id : Nat) : List AI → Option (List AI)
  | .inBlock _ j :: k => bif Nat.beq j id then some k else aExit id k
  | _ :: k => aExit id k
  | [] => none

def argsTo : (ts : List TY) → List AV → Option (Den ts)
  | [], [] => some ()
  | t :: ts, v :: vs => (v.to t).bind fun x => (argsTo ts vs).map fun xs => (x, xs)
  | _, _ => none

def one : List AV → AV
  | [v] => v
  | vs => .tup vs

def resVals (E : Env) (tm : Nat → AV) (h : H) : List ResultVar → Option (List AV)
  | [] => some []
  | .tmp t :: rs => (resVals E tm h rs).map fun vs => tm t :: vs
  | .cell a t :: rs =>
    match E.ty t, tm a with
    | some ty, .ptr q off => match h.blk q with
      | some b => match Lay.get b.lay b.x off ty.lay with
        | some y => (resVals E tm h rs).map fun vs => .dat ty y :: vs
        | none => none
      | none => none
    | _, _ => none

def site (rid i : Nat) : Nat := rid * 1000 + i

def argTm : List AV → Nat → AV
  | [], _ => .con undef
  | v :: _, 0 => v
  | _ :: vs, n + 1 => argTm vs n

/-- One operation that is carried out. -/
def oneOp (E : Env) (c : AF) (o : Oper) (rid i : Nat) (h : H)
    (next : AV → H → Option R) (enter : Nat → Body → List AV → Option R) : Option R :=
  match o.op with
  | .call ⟨.value f, args, _⟩ =>
    match evalA c.tm f with
    | .fn fid caps =>
      match E.sum fid with
      | some s => match argsTo s.ps (args.toList.map (evalA c.tm) ++ caps) with
        | some x => (s.F x).bind fun r => next (one (s.out r)) h
        | none => none
      | none => match E.body fid with
        | some b => enter fid b (args.toList.map (evalA c.tm) ++ caps)
        | none => none
    | _ => none
  | _ => aOp E (site rid i :: c.path) (evalA c.tm) o h next

/-! ### regions whose order is open -/
def maskOf (acc : List Nat) (o : Oper) : Nat :=
  o.after.toList.foldl (fun s e => bif Region.binds .any e then s ||| 2 ^ e.on ||| (acc[e.on]?).getD 0 else s) 0

def masks : List Oper → List Nat → List Nat
  | [], acc => acc
  | o :: os, acc => masks os (acc ++ [maskOf acc o])

/-- What an operation does to the small heap: 0 nothing, 1 it reads blocks, 2 it makes one, 3 it writes one, 4 it turns tokens, 5 not to be told. -/
def kindOf (E : Env) (o : Oper) : Nat :=
  match o.op with
  | .move _ | .assign _ | .pick _ _ _ | .build _ _ | .buildSlice _ _ _ | .nilCheck _ | .binOp _ _ _ _ _ | .unOp _ _ _ | .convert _ _ _ | .slice _ _ _ _ _
  | .fieldAddr _ _ _ | .field _ _ _ | .indexAddr _ _ _ | .extract _ _ | .makeFunc _ _ _ => 0
  | .load _ _ => 1
  | .alloc _ | .box _ _ => 2
  | .store _ _ _ => 3
  | .call ⟨.builtin .append, _, _⟩ => 4
  | .makeSlice _ _ _ => 4
  | .call ⟨.builtin .len, _, _⟩ | .call ⟨.builtin .min, _, _⟩ | .call ⟨.builtin .max, _, _⟩ => 0
  | .call ⟨.value (.func f), _, _⟩ => bif (E.sum f).isSome then 0 else 5
  | _ => 5

def kindsOk : Nat → Nat → Bool
  | 0, b => bif Nat.beq b 5 then false else true
  | a, 0 => bif Nat.beq a 5 then false else true
  | 1, 1 => true
  | 1, 2 => true
  | 2, 2 => true
  | 4, 1 => true
  | 4, 2 => true
  | 4, 3 => true
  | 1, 4 => true
  | 2, 4 => true
  | 3, 4 => true
  | _, _ => false

def tmpsOf (ops : Array Oper) (o : Oper) : List Nat :=
  o.op.operands.toList.filterMap (fun x => match x with | .tmp t => some t | _ => none) ++
  (match o.guard with
   | some (j, _) => ((ops[j]?).bind (·.dst)).toList
   | none => [])

def hasTmp : List Nat → Nat → Bool
  | [], _ => false
  | a :: l, b => bif Nat.beq a b then true else hasTmp l b

/-- x stands ahead of y in the text, and may as well stand behind it. -/
def indep (E : Env) (ops : Array Oper) (x y : Oper) : Bool :=
  kindsOk (kindOf E x) (kindOf E y) &&
  (match x.dst with
    | some d => !(hasTmp (tmpsOf ops y) d) && (match y.dst with | some e => !(Nat.beq d e) | none => true)
    | none => true) &&
  (match y.dst with
    | some d => !(hasTmp (tmpsOf ops x) d)
    | none => true)

def okAgainst (E : Env) (ops : Array Oper) (m : Nat) (y : Oper) : List (Oper × Nat) → Bool
  | [] => true
  | (x, i) :: l => (m.testBit i || indep E ops x y) && okAgainst E ops m y l

def okFrom (E : Env) (ops : Array Oper) : List (Oper × Nat) → List Nat → List (Oper × Nat) → Bool
  | _, [], [] => true
  | pre, m :: ms, (y, j) :: l => okAgainst E ops m y pre && okFrom E ops (pre ++ [(y, j)]) ms l
  | _, _, _ => false

/-- Every edge that binds goes back. -/
def okBack (p : Oper × Nat) : Bool :=
  p.1.after.toList.all fun e => bif Region.binds .any e then Nat.blt e.on p.2 else true

def okDraw (E : Env) (ops : Array Oper) : Bool := ops.toList.zipIdx.all okBack && okFrom E ops [] (masks ops.toList []) ops.toList.zipIdx

def leave (E : Env) (fin : List AV → H → Option R) (c : AF) (cs : List AF) (h : H) (go : AF → List AF → Option R) : Option R :=
  match resVals E c.tm h c.res with
  | none => none
  | some vs =>
    match cs with
    | [] => fin vs h
    | c' :: cs' =>
      match c'.todo with
      | .inReg ops ((o, _) :: is) p rid :: k =>
        bif dstOk o.dst c'.n then go { c' with tm := putA c'.tm o.dst (one vs), todo := .inReg ops is p rid :: k } cs' else none
      | _ => none

def run (E : Env) (fin : List AV → H → Option R) (K : AF → H → Option R) : Nat → Bool → AF → List AF → H → Option R
  | 0, _, _, _, _ => none
  | n + 1, chk, c, cs, h =>
    match c.todo with
    | [] => leave E fin c cs h fun c' cs' => run E fin K n true c' cs' h
    | .code p code :: k =>
      bif chk && (cs.isEmpty && E.cut p) then K c h else
      match code with
      | .skip => run E fin K n true { c with todo := k } cs h
      | .label _ => run E fin K n true { c with todo := k } cs h
      | .seq a b => run E fin K n true { c with todo := .code (0 :: p) a :: .code (1 :: p) b :: k } cs h
      | .cond x a b => match (evalA c.tm x).bool? with
        | some t => bif t then run E fin K n true { c with todo := .code (0 :: p) a :: k } cs h
                    else run E fin K n true { c with todo := .code (1 :: p) b :: k } cs h
        | none => none
      | .block id b => run E fin K n true { c with todo := .code (0 :: p) b :: .inBlock p id :: k } cs h
      | .loop b => run E fin K n true { c with todo := .code (0 :: p) b :: .inLoop p b :: k } cs h
      | .exit id => match aExit id k with
        | some k' => run E fin K n true { c with todo := k' } cs h
        | none => none
      | .ret => leave E fin c cs h fun c' cs' => run E fin K n true c' cs' h
      | .region rid ops draw => bif draw && !(okDraw E ops) then none else run E fin K n true { c with todo := .inReg ops ops.toList.zipIdx p rid :: k } cs h
      | _ => none
    | .inLoop p b :: k => run E fin K n true { c with todo := .code (0 :: p) b :: .inLoop p b :: k } cs h
    | .inBlock _ _ :: k => run E fin K n true { c with todo := k } cs h
    | .inReg _ [] _ _ :: k => run E fin K n true { c with todo := k } cs h
    | .inReg ops ((o, i) :: is) p rid :: k =>
      let doIt (tm : Nat → AV) : Option R :=
        oneOp E { c with tm := tm } o rid i h
          (fun v h' => run E fin K n true { c with tm := putA tm o.dst v, todo := .inReg ops is p rid :: k } cs h')
          (fun fid b as => run E fin K n true { f := fid, n := b.ntmps, path := site rid i :: c.path, res := b.results, tm := argTm as, todo := [.code [] b.code] }
              ({ c with tm := tm } :: cs) h)
      bif !(dstOk o.dst c.n) then none else
      match o.guard with
      | none => doIt c.tm
      | some (j, want) =>
        match (ops[j]?).bind (·.dst) with
        | none => none
        | some d =>
          let skip (tm : Nat → AV) : Option R :=
            run E fin K n true { c with tm := putA tm o.dst (.con undef), todo := .inReg ops is p rid :: k } cs h
          match c.tm d with
          | .dat (.sc .bool) b =>
            bif b then (bif want then doIt (putA c.tm (some d) (.bool true)) else skip (putA c.tm (some d) (.bool true)))
            else (bif want then skip (putA c.tm (some d) (.bool false)) else doIt (putA c.tm (some d) (.bool false)))
          | .con (.tuple _) => skip c.tm
          | _ => none
termination_by structural n => n

end
end Go.Proofs.Ythdjomfkechfoaa.Vx
