/-
  The abstract machine once more, each step handing on to what follows: so that a run over unknown data comes out as a tree of plain tests.
-/
import Derived.Test.YtgegmojoakkohaaGreatDoorVm1
namespace Go.Vm
set_option linter.unusedVariables false

/-- A test that stays. -/
def br {α : Type} (b : Bool) (x y : α) : α :=
  match b with
  | true => x
  | false => y

/-- A query: what it answers is unknown. -/
def qb {α β : Type} (o : Option α) (f : α → Option β) : Option β :=
  match o with
  | some a => f a
  | none => none

section
variable {α : Type}

/-- A cell, a value, an object written out before it is kept. -/
def forceC (c : C) (k : C → Option α) : Option α :=
  match c with
  | .f (.sc (.int kd n)) => k (.f (.sc (.int kd n)))
  | .f (.sc (.bool b)) => k (.f (.sc (.bool b)))
  | .f (.sc (.string s)) => k (.f (.sc (.string s)))
  | .f (.sc v) => k (.f (.sc v))
  | .f (.sl t kd l) => k (.f (.sl t kd l))
  | .f (.ep kd x off) => k (.f (.ep kd x off))
  | .f .err => k (.f .err)
  | .bx id off => k (.bx id off)
  | .row id kd => k (.row id kd)
  | .re id kd i off => k (.re id kd i off)
  | .fn f caps => k (.fn f caps)
  | .hole => k .hole
  | .und => k .und

def forceCs : List C → (List C → Option α) → Option α
  | [], k => k []
  | c :: cs, k => forceC c fun c' => forceCs cs fun cs' => k (c' :: cs')

def forceV (v : V) (k : V → Option α) : Option α :=
  match v with
  | .c x => forceC x fun x' => k (.c x')
  | .agg cs => forceCs cs fun cs' => k (.agg cs')
  | .tup vs => k (.tup vs)

def forceO (o : Obj) (k : Obj → Option α) : Option α :=
  match o with
  | .box cs => forceCs cs fun cs' => k (.box cs')
  | .row w kd l => k (.row w kd l)
  | .dead => k .dead

/-- A call that is handed local memory. -/
def hq (T : CallSem) (f : FuncId) (as : List V) (os : List Obj) : Option (V × List Obj × List Obj) := T f as os

end

/-! ### What a shape holds, as plain data -/

mutual
@[reducible] def ShTy : Sh → Type
  | .raw => V
  | .bool => Bool
  | .int => Int
  | .u8 => Int
  | .str => ByteArray
  | .sl k => List (El k)
  | .el k => El k
  | .cert => Cert
  | .client => Client
  | .server => Server
  | .world => WorldD
  | .tt => Term
  | .tup l => ShTys l
  | .bx _ _ => Unit
  | .row _ _ => Unit
  | .err => Bool
@[reducible] def ShTys : List Sh → Type
  | [] => Unit
  | s :: r => ShTy s × ShTys r
end

mutual
def enc : (s : Sh) → ShTy s → V
  | .raw, v => v
  | .bool, b => .bool b
  | .int, n => .int n
  | .u8, n => .u8 n
  | .str, s => .str s
  | .sl k, l => .sl false k l
  | .el k, x => elV k x
  | .cert, x => .ag (Cert.cells x)
  | .client, x => .ag (Client.cells x)
  | .server, x => .ag (Server.cells x)
  | .world, x => .ag (WorldD.cells x)
  | .tt, x => ttV x
  | .tup l, x => .tup (encs l x)
  | .bx id off, _ => .c (.bx id off)
  | .row id k, _ => .c (.row id k)
  | .err, b => .c (errC b)
def encs : (l : List Sh) → ShTys l → List V
  | [], _ => []
  | s :: r, x => enc s x.1 :: encs r x.2
end

/-! What is read is written anew here: the machine's own words stay queries. -/

def gC : V → Option C
  | .c x => some x
  | _ => none
def gBool : C → Option Bool
  | .f (.sc (.bool b)) => some b
  | _ => none
def gInt : C → Option Int
  | .f (.sc (.int .i64 n)) => some n
  | _ => none
def gU8 : C → Option Int
  | .f (.sc (.int .u8 n)) => some n
  | _ => none
def gStr : C → Option ByteArray
  | .f (.sc (.string s)) => some s
  | _ => none
def gSl (k : Kind) : C → Option (List (El k))
  | .f (.sl _ k' l) => if e : k' = k then some (e ▸ l) else none
  | _ => none
def gErr : C → Option Bool
  | .f .err => some true
  | .f (.sc .nilIface) => some false
  | _ => none
def gBx (id : Id) (off : Nat) : C → Option Unit
  | .bx id' off' => bif Id.beq id' id && Nat.beq off' off then some () else none
  | _ => none
def gRow (id : Id) (k : Kind) : C → Option Unit
  | .row id' k' => bif Id.beq id' id && decide (k' = k) then some () else none
  | _ => none
def gTup (n : Nat) : V → Option Unit
  | .tup vs => bif Nat.beq vs.length n then some () else none
  | _ => none
def gPart (v : V) (j : Nat) : Option V :=
  match v with
  | .tup vs => vs[j]?
  | _ => none
def gEl (k : Kind) : V → Option (El k)
  | .agg cs => (lmapM frzC cs).bind (ofCells k)
  | _ => none
def gCert : V → Option Cert
  | .agg [.f (.sc (.string h)), .f (.sc (.int .i64 a)), .f (.sc (.int .i64 b)), .f (.sc (.string s)), .f (.sl _ .term l), .f (.sc (.int .i64 u))] => some ⟨h, ⟨a, b, s, l⟩, u⟩
  | _ => none
def gClient : V → Option Client
  | .agg [.f (.sc (.int .i64 st)), .f (.sc (.string h)), .f (.sc (.bool m)), .f (.sc (.int .i64 e)), .f (.sc (.int .i64 b)), .f (.sc (.int .i64 to)), .f (.sc (.int .i64 tn)), .f (.sc (.string ts)), .f (.sl _ .term tk),
      .f (.sc (.int .i64 i)), .f (.sc (.int .i64 o)), .f (.sc (.bool tl)), .f (.sc (.bool p))] => some ⟨st, h, m, e, b, ⟨to, tn, ts, tk⟩, i, o, tl, p⟩
  | _ => none
def gServer : V → Option Server
  | .agg [.f (.sc (.int .i64 st)), .f (.sc (.string nm)), .f (.sc (.int .i64 k)), .f (.sc (.int .i64 e)), .f (.sc (.int .i64 co)), .f (.sc (.int .i64 cn)), .f (.sc (.string cs)), .f (.sl _ .term ck),
      .f (.sc (.int .i64 so)), .f (.sc (.int .i64 sn)), .f (.sc (.string ss)), .f (.sl _ .term sk), .f (.sc (.int .i64 i)), .f (.sc (.int .i64 o)), .f (.sc (.bool tl)), .f (.sl _ .int g)] =>
      some ⟨st, nm, k, e, ⟨co, cn, cs, ck⟩, ⟨so, sn, ss, sk⟩, i, o, tl, g⟩
  | _ => none
def gTt : V → Option Term
  | .agg [.f (.sc (.int .i64 o)), .f (.sc (.int .i64 n)), .f (.sc (.string s)), .f (.sl true .term l)] => some ⟨o, n, s, l⟩
  | _ => none
def gWorld : V → Option WorldD
  | .agg [.f (.sc (.int .i64 t)), .f (.sc (.int .i64 fr)), .f (.sl _ .term kn), .f (.sl _ .policy ca), .f (.sl _ .host ho), .f (.sl _ .letter le), .f (.sc (.string bo)), .f (.sc (.int .i64 su)),
      .f (.sl _ .call cl), .f (.sl _ .talk ta), .f (.sl _ .int to)] => some ⟨t, fr, kn, ca, ho, le, bo, su, cl, ta, to⟩
  | _ => none

mutual
def dec : (s : Sh) → V → Option (ShTy s)
  | .raw, v => some v
  | .bool, v => (gC v).bind gBool
  | .int, v => (gC v).bind gInt
  | .u8, v => (gC v).bind gU8
  | .str, v => (gC v).bind gStr
  | .sl k, v => (gC v).bind (gSl k)
  | .el k, v => gEl k v
  | .cert, v => gCert v
  | .client, v => gClient v
  | .server, v => gServer v
  | .world, v => gWorld v
  | .tt, v => gTt v
  | .tup l, v => (gTup l.length v).bind fun _ => decs l v 0
  | .bx id off, v => (gC v).bind (gBx id off)
  | .row id k, v => (gC v).bind (gRow id k)
  | .err, v => (gC v).bind gErr
def decs : (l : List Sh) → V → Nat → Option (ShTys l)
  | [], _, _ => some ()
  | s :: r, v, j => (gPart v j).bind fun x => (dec s x).bind fun y => (decs r v (j + 1)).bind fun ys => some (y, ys)
end

mutual
/-- Written out: an error stands both ways. -/
def encK {α : Type} : (s : Sh) → ShTy s → (V → Option α) → Option α
  | .err, b, k => br b (k (.c (.f .err))) (k (.c (.f (.sc .nilIface))))
  | .tup l, x, k => encsK l x fun vs => k (.tup vs)
  | .raw, x, k => k x
  | .bool, x, k => k (.bool x)
  | .int, x, k => k (.int x)
  | .u8, x, k => k (.u8 x)
  | .str, x, k => k (.str x)
  | .sl kd, x, k => k (.sl false kd x)
  | .el kd, x, k => k (elV kd x)
  | .cert, x, k => k (.ag (Cert.cells x))
  | .client, x, k => k (.ag (Client.cells x))
  | .server, x, k => k (.ag (Server.cells x))
  | .world, x, k => k (.ag (WorldD.cells x))
  | .tt, x, k => k (ttV x)
  | .bx id off, _, k => k (.c (.bx id off))
  | .row id kd, _, k => k (.c (.row id kd))
def encsK {α : Type} : (l : List Sh) → ShTys l → (List V → Option α) → Option α
  | [], _, k => k []
  | s :: r, x, k => encK s x.1 fun v => encsK r x.2 fun vs => k (v :: vs)
end

/-- What a call of a function that is handed nothing answers, as plain data. -/
def presT (T : CallSem) (f : FuncId) (as : List V) (sh : Sh) : Option (ShTy sh) := (pres T f as).bind (dec sh)

/-! Objects behind a call. -/

@[reducible] def CTy : C → Type
  | .f (.sc (.bool _)) => Bool
  | .f (.sc (.int .i64 _)) => Int
  | .f (.sc (.string _)) => ByteArray
  | .f (.sl _ k _) => List (El k)
  | _ => Unit

def encC : (o : C) → CTy o → C
  | .f (.sc (.bool _)), b => .f (.sc (.bool b))
  | .f (.sc (.int .i64 _)), n => .f (.sc (.int .i64 n))
  | .f (.sc (.string _)), s => .f (.sc (.string s))
  | .f (.sl _ k _), l => .f (.sl false k l)
  | c, _ => c

def decC : (o : C) → C → Option (CTy o)
  | .f (.sc (.bool _)), c => gBool c
  | .f (.sc (.int .i64 _)), c => gInt c
  | .f (.sc (.string _)), c => gStr c
  | .f (.sl _ k _), c => gSl k c
  | .row id k, c => gRow id k c
  | _, _ => none

@[reducible] def CTys : List C → Type
  | [] => Unit
  | c :: r => CTy c × CTys r

def encCs : (l : List C) → CTys l → List C
  | [], _ => []
  | c :: r, x => encC c x.1 :: encCs r x.2

def decCs : (l : List C) → List C → Option (CTys l)
  | [], [] => some ()
  | c :: r, d :: ds => (decC c d).bind fun x => (decCs r ds).bind fun xs => some (x, xs)
  | _, _ => none

@[reducible] def ObTy : Obj → Type
  | .box cs => CTys cs
  | .row _ k _ => List (El k)
  | .dead => Unit

def encOb : (o : Obj) → ObTy o → Obj
  | .box cs, x => .box (encCs cs x)
  | .row w k _, l => .row w k l
  | .dead, _ => .dead

def gBox : Obj → Option (List C)
  | .box cs => some cs
  | _ => none
def gRowO (wr : Bool) (k : Kind) : Obj → Option (List (El k))
  | .row w k' l => if w = wr then (if e : k' = k then some (e ▸ l) else none) else none
  | _ => none

def decOb : (o : Obj) → Obj → Option (ObTy o)
  | .box cs, n => (gBox n).bind fun ds => decCs cs ds
  | .row w k _, n => gRowO w k n
  | .dead, n => match n with | .dead => some () | _ => none

@[reducible] def ObTys : List Obj → Type
  | [] => Unit
  | o :: r => ObTy o × ObTys r

def encObs : (l : List Obj) → ObTys l → List Obj
  | [], _ => []
  | o :: r, x => encOb o x.1 :: encObs r x.2

def decObs : (l : List Obj) → List Obj → Option (ObTys l)
  | [], [] => some ()
  | o :: r, n :: ns => (decOb o n).bind fun x => (decObs r ns).bind fun xs => some (x, xs)
  | _, _ => none

/-- What a call that is handed local memory answers, as plain data: the result, the objects. -/
def hqT (T : CallSem) (f : FuncId) (as : List V) (os : List Obj) (sh : Sh) : Option (ShTy sh × ObTys os) :=
  (hq (frzT T) f as os).bind fun r => bif isNil r.2.2 then (dec sh r.1).bind fun x => (decObs os r.2.1).bind fun y => some (x, y) else none

/-! Behind a loop. -/

@[reducible] def SlTys : List (Nat × Sh) → Type
  | [] => Unit
  | p :: r => ShTy p.2 × SlTys r

def encSl : (l : List (Nat × Sh)) → SlTys l → List (Nat × V)
  | [], _ => []
  | p :: r, x => (p.1, enc p.2 x.1) :: encSl r x.2

def decSl : (l : List (Nat × Sh)) → Fr → Option (SlTys l)
  | [], _ => some ()
  | p :: r, fr => (dec p.2 (fr p.1)).bind fun x => (decSl r fr).bind fun xs => some (x, xs)

@[reducible] def OshTy : OSh → Type
  | .box l => ShTys l
  | .row _ k => List (El k)
  | .recd s => ShTy s

def cOf : V → C
  | .c x => x
  | _ => .hole
def aggOf : V → List C
  | .agg cs => cs
  | _ => []

def encOsh : (s : OSh) → OshTy s → Obj
  | .box l, x => .box ((encs l x).map cOf)
  | .row w k, l => .row w k l
  | .recd s, x => .box (aggOf (enc s x))

def decBx : (l : List Sh) → List C → Option (ShTys l)
  | [], [] => some ()
  | s :: r, c :: cs => (dec s (.c c)).bind fun x => (decBx r cs).bind fun xs => some (x, xs)
  | _, _ => none

def decOsh : (s : OSh) → Obj → Option (OshTy s)
  | .box l, o => (gBox o).bind fun cs => decBx l cs
  | .row w k, o => gRowO w k o
  | .recd s, o => (gBox o).bind fun cs => dec s (.agg cs)

@[reducible] def OsTys : List (Id × OSh) → Type
  | [] => Unit
  | p :: r => OshTy p.2 × OsTys r

def encOs : (l : List (Id × OSh)) → OsTys l → List (Id × Obj)
  | [], _ => []
  | p :: r, x => (p.1, encOsh p.2 x.1) :: encOs r x.2

def decOs : (l : List (Id × OSh)) → Hp → Option (OsTys l)
  | [], _ => some ()
  | p :: r, h => (h p.1).bind fun o => (decOsh p.2 o).bind fun x => (decOs r h).bind fun xs => some (x, xs)

@[reducible] def LoopTy (l : LoopH) : Type := Ex × SlTys l.sh × OsTys l.osh

/-- What a loop comes to, as plain data. -/
def loopT (l : LoopH) (o : Option (Ex × St)) : Option (LoopTy l) :=
  o.bind fun r => (decSl l.sh r.2.fr).bind fun a => (decOs l.osh r.2.h).bind fun b => some (r.1, a, b)

section
variable {α : Type}

abbrev CallK (α : Type) := FuncId → List V → List Obj → (V → List Obj → List Obj → Option α) → Option α

def pcallK (T : CallSem) (h : Hp) (f : FuncId) (args : List V) (sh : Sh) (k : V → Option α) : Option α :=
  (lmapM (snapV h) args).bind fun as => qb (presT T f as sh) fun x => encK sh x fun v => bif noRefs args || flatV v then k v else none

/-- The objects written out before they are kept. -/
def forceIds (h : Hp) : List Id → (Hp → Option α) → Option α
  | [], k => k h
  | i :: r, k => match h i with
      | some o => forceO o fun o' => forceIds (hput h i o') r k
      | none => forceIds h r k

def forceE (ids : List Id) (e : Eff) (k : Eff → Option α) : Option α :=
  match e with
  | .heap h => forceIds h ids fun h' => k (.heap h')
  | e => k e

/-- Names written out. -/
def forceL : List Id → (List Id → Option α) → Option α
  | [], k => k []
  | i :: r, k => forceV (.c (.bx i 0)) fun v => match v with
      | .c (.bx i' _) => forceL r fun r' => k (i' :: r')
      | _ => none

def hcallSK (T : CallSem) (h : Hp) (d : Nat) (f : FuncId) (args : List V) (sh : Sh) (k : V → Eff → Option α) : Option α :=
  forceL (reach h 3 (addNew [] (refsVs args))) fun ids =>
  let m := numFrom .arg 0 ids
  bif distinct ids then
    (getAll h ids).bind fun os => qb (hqT T f (renVs m args) (os.map (renO m)) sh) fun r =>
      (handBack h d ids (enc sh r.1) (encObs (os.map (renO m)) r.2) []).bind fun p => forceE ids p.2 fun e => k p.1 e
  else none

def hcallK (IK : CallK α) (h : Hp) (d : Nat) (f : FuncId) (args : List V) (k : V → Eff → Option α) : Option α :=
  forceL (reach h 3 (addNew [] (refsVs args))) fun ids =>
  let m := numFrom .arg 0 ids
  bif distinct ids then
    (getAll h ids).bind fun os => IK f (renVs m args) (os.map (renO m)) fun r os' ns => (handBack h d ids r os' ns).bind fun p => k p.1 p.2
  else none

def natK (h : Hp) (d : Nat) (nt : Nt) (args : List V) (k : V → Eff → Option α) : Option α :=
  match nt, args with
  | .clone kd, [x] => (items h kd x).bind fun l => bif slV x then br (Nat.ble l.length appMax) (k (.c (.row (.own d) kd)) (.put (.own d) (.row true kd l))) none else none
  | _, _ => none

def callVK (cfg : Cfg) (T : CallSem) (IK : CallK α) (me : FuncId) (h : Hp) (d : Nat) (ty : TypeId) (f : V) (args : List V) (k : V → Eff → Option α) : Option α :=
  match f with
  | .c (.fn g caps) =>
    (match cfg.nat g with
    | some nt => bif isNil caps then natK h d nt args k else none
    | none => match cfg.hm me g with
      | .pure => pcallK T h g (args ++ caps.map .c) (cfg.sh g ty) fun v => k v .none
      | .heap => hcallSK T h d g (args ++ caps.map .c) (cfg.sh g ty) k
      | .inline => hcallK IK h d g (args ++ caps.map .c) k)
  | _ => none

def binIK (op : BinOp) (kd : IntKind) (a b : Int) (k : F → Option α) : Option α :=
  match op with
  | .quo => qb (ne0 b) fun _ => k (.sc (.int kd (kd.wrap (a.tdiv b))))
  | .rem => qb (ne0 b) fun _ => k (.sc (.int kd (a.tmod b)))
  | _ => (binI op kd a b).bind k

def shfK (op : BinOp) (kd : IntKind) (a b : Int) (k : F → Option α) : Option α :=
  match op with
  | .shl => qb (ge0 b) fun _ => k (.sc (.int kd (kd.wrap (a * 2 ^ (min b.toNat kd.bits)))))
  | .shr => qb (ge0 b) fun _ => k (.sc (.int kd (a.fdiv (2 ^ (min b.toNat kd.bits)))))
  | _ => none

def binSK (op : BinOp) (x y : ByteArray) (k : F → Option α) : Option α :=
  match op with
  | .add => qb (catOk x y) fun _ => k (.str (x ++ y))
  | _ => (binS op x y).bind k

def binK (cfg : Cfg) (op : BinOp) (T : TypeId) (cy : Bool) (x y : V) (k : V → Option α) : Option α :=
  match x, y with
  | .c (.f (.sc (.int kd a))), .c (.f (.sc (.int kd' b))) => bif isShift op then shfK op kd a b fun v => k (.c (.f v)) else bif decide (kd = kd') then binIK op kd a b fun v => k (.c (.f v)) else none
  | .c (.f (.sc (.string a))), .c (.f (.sc (.string b))) => binSK op a b fun v => k (.c (.f v))
  | x, y => (bin cfg op T cy x y).bind k

def ixAK (cfg : Cfg) (h : Hp) (T : TypeId) (x i : V) (k : V → Option α) : Option α :=
  (kindT cfg T).bind fun kd =>
  (asI i).bind fun i =>
  match x with
  | .c (.f (.sl _ k' l)) => bif decide (k' = kd) then qb (idx l i) fun y => k (.c (.f (.ep k' y 0))) else none
  | .c (.row id k') => bif decide (k' = kd) then (h id).bind fun
      | .row true k2 l => bif decide (k2 = k') then qb (idx l i) fun _ => k (.c (.re id k' i.toNat 0)) else none
      | _ => none else none
  | _ => none

def ixK (cfg : Cfg) (T : TypeId) (x i : V) (k : V → Option α) : Option α :=
  (cfg.tb T).bind fun t => match t.desc, x with
  | .string, .c (.f (.sc (.string s))) => (asI i).bind fun i => qb (byteAt s i) fun b => k (.u8 b)
  | _, _ => none

def slcK (cfg : Cfg) (fr : Fr) (T : TypeId) (x : V) (lo hi mx : Option Operand) (k : V → Option α) : Option α :=
  (cfg.tb T).bind fun t =>
  (optI fr lo).bind fun l => (optI fr hi).bind fun hh =>
  match t.desc, x, mx with
  | .string, .c (.f (.sc (.string s))), none => qb (bnds s.size l hh) fun p => k (.str (s.extract p.1 p.2))
  | .slice _, .c (.f (.sl _ kd y)), none => bif decide (t.kind = some kd) then qb (bnds y.length l hh) fun p => k (.sl false kd ((y.take p.2).drop p.1)) else none
  | _, x, mx => (slc cfg fr T x lo hi mx).bind k

def ldK (cfg : Cfg) (h : Hp) (T : TypeId) (a : V) (k : V → Option α) : Option α :=
  match a with
  | .c (.re id kd j off) => (cfg.tb T).bind fun i => (h id).bind fun
      | .row _ k' l => if e : k' = kd then qb (l[j]?) fun x => bif Nat.ble (off + i.size) (szOf kd) then (valOf (isAggD i.desc) ((cut (cellsOf kd (e ▸ x)) off i.size).map .f)).bind k else none else none
      | _ => none
  | a => (ld cfg h T a).bind k

def stK (cfg : Cfg) (h : Hp) (T : TypeId) (a v : V) (k : Hp → Option α) : Option α :=
  match a with
  | .c (.re id kd j off) => (cfg.tb T).bind fun i => (cellsV v).bind fun vs => bif Nat.beq vs.length i.size then (h id).bind fun
        | .row true k' l => if e : k' = kd then qb (l[j]?) fun x => bif Nat.ble (off + i.size) (szOf kd) then
            (lmapM frzC vs).bind fun fs => (ofCells kd (putAt (cellsOf kd (e ▸ x)) off fs)).bind fun y => k (hput h id (.row true k' (l.set j (e ▸ y)))) else none else none
        | _ => none else none
  | a => (st cfg h T a v).bind k

def appRowK (h : Hp) (d : Nat) (kd : Kind) (id : Id) (l xs : List (El kd)) (k : V → Eff → Option α) : Option α :=
  br (isNil xs) (k (.c (.row id kd)) .none)
   (match h (.own d) with
    | .none => br (Nat.ble (l.length + xs.length) appMax) (k (.c (.row (.own d) kd)) (.heap (hput (hput h id .dead) (.own d) (.row true kd (l ++ xs))))) none
    | some _ => none)

def appTightK (d : Nat) (kd : Kind) (l xs : List (El kd)) (k : V → Eff → Option α) : Option α :=
  br (isNil xs) (k (.sl true kd l) .none)
   (br (Nat.ble (l.length + xs.length) appMax) (k (.c (.row (.own d) kd)) (.put (.own d) (.row true kd (l ++ xs)))) none)

def appK (h : Hp) (d : Nat) (kd : Kind) (s x : V) (k : V → Eff → Option α) : Option α :=
  (items h kd x).bind fun xs =>
  match s with
  | .c (.f (.sl true k' l)) => if e : k' = kd then appTightK d kd (e ▸ l) xs k else none
  | .c (.row id k') => (h id).bind fun
      | .row wr k2 l => if e : k2 = kd then (bif notRow id x then appRowK h d kd id (e ▸ l) xs k else none) else none
      | _ => none
  | _ => none

def mkK (cfg : Cfg) (d : Nat) (T : TypeId) (n c : V) (k : V → Eff → Option α) : Option α :=
  (kindT cfg T).bind fun kd => (asI n).bind fun n => (asI c).bind fun c =>
  br (decide (n = c) && decide (0 ≤ n) && Nat.ble n.toNat appMax) (k (.c (.row (.own d) kd)) (.put (.own d) (.row true kd (List.replicate n.toNat (zeroEl kd))))) none

def appNewK (h : Hp) (d : Nat) (kd : Kind) (s x : V) (k : V → Eff → Option α) : Option α :=
  (items h kd x).bind fun xs =>
  match s with
  | .c (.f (.sl true k' [])) => bif decide (k' = kd) then br (Nat.ble xs.length appMax) (k (.c (.row (.own d) kd)) (.put (.own d) (.row true kd xs))) none else none
  | _ => none

def bltK (cfg : Cfg) (nw : Bool) (h : Hp) (d : Nat) (b : Builtin) (args : List V) (tys : List TypeId) (k : V → Eff → Option α) : Option α :=
  match b, args, tys with
  | .append, [s, x], [T, T2] => (kindT cfg T).bind fun kd => (cfg.tb T2).bind fun i => bif seqT i.desc x then (bif nw then appNewK h d kd s x k else appK h d kd s x k) else none
  | b, args, tys => (blt cfg nw h d b args tys).bind fun r => k r.1 r.2

/-- A byte out of its cell. -/
def u8of (n : Int) : Option (El .byte) := ofCells .byte [.sc (.int .u8 n)]

/-- An element out of its cells. -/
def ofCellsK (kd : Kind) (fs : List F) (k : El kd → Option α) : Option α :=
  match kd, fs, k with
  | .byte, [.sc (.int .u8 n)], k => qb (u8of n) k
  | kd, fs, k => (ofCells kd fs).bind k

def lmapQ {β γ : Type} (f : β → (γ → Option α) → Option α) : List β → (List γ → Option α) → Option α
  | [], k => k []
  | b :: r, k => f b fun y => lmapQ f r fun ys => k (y :: ys)

def bldSK (cfg : Cfg) (fr : Fr) (T : TypeId) (n : Nat) (parts : List (Nat × Operand)) (k : V → Option α) : Option α :=
  (kindT cfg T).bind fun kd => (eltT cfg T).bind fun e =>
  bif Nat.beq parts.length n && inOrder 0 parts && Nat.ble (n * szOf kd) 1000 then
    lmapQ (fun (p : Nat × Operand) k => (evT cfg fr e p.2).bind fun v => (cellsV v).bind fun cs => (lmapM frzC cs).bind fun fs => ofCellsK kd fs k) parts fun l => k (.sl true kd l)
  else none

def aopK (cfg : Cfg) (T : CallSem) (IK : CallK α) (me : FuncId) (fr : Fr) (h : Hp) (dst : Option Nat) (ty : TypeId) (op : Op) (k : V → Eff → Option α) : Option α :=
  match op with
  | .pick c a b => (ev fr c).bind fun c => (asB c).bind fun c => br c ((evT cfg fr ty a).bind fun v => k v .none) ((evT cfg fr ty b).bind fun v => k v .none)
  | .load t a => (ev fr a).bind fun a => ldK cfg h t a fun v => k v .none
  | .store t a x => (ev fr a).bind fun a => (evT cfg fr t x).bind fun v => stK cfg h t a v fun h' => k (.c .und) (.heap h')
  | .binOp op t x y _ => (ev fr x).bind fun a => (ev fr y).bind fun b => binK cfg op t (isConst y) a b fun v => k v .none
  | .makeSlice t n c => dst.bind fun d => (ev fr n).bind fun n => (ev fr c).bind fun c => mkK cfg d t n c k
  | .buildSlice t n ps => bldSK cfg fr t n ps.toList fun v => (rowOf (cfg.br me) dst v).bind fun r => k r.1 r.2
  | .slice t x lo hi mx => (ev fr x).bind fun v => slcK cfg fr t v lo hi mx fun v => k v .none
  | .indexAddr t x i => (ev fr x).bind fun x => (ev fr i).bind fun i => ixAK cfg h t x i fun v => k v .none
  | .index t x i => (ev fr x).bind fun x => (ev fr i).bind fun i => ixK cfg t x i fun v => k v .none
  | .call c => dst.bind fun d => (evTs cfg fr c.args.toList c.argTypes.toList).bind fun args =>
      match c.callee with
      | .value f => (ev fr f).bind fun f => callVK cfg T IK me h d ty f args k
      | .builtin b => bltK cfg (cfg.ar me d) h d b args c.argTypes.toList k
      | .invoke _ _ => none
  | op => (aop cfg T T me fr h dst ty op).bind fun r => k r.1 r.2

def applyK (h : Hp) (e : Eff) (k : Hp → Option α) : Option α :=
  match e with
  | .none => k h
  | .put i o => match h i with
      | .none => forceO o fun o' => k (hput h i o')
      | some _ => none
  | .heap h' => k h'

def putK (nt : Nat) (fr : Fr) (dst : Option Nat) (v : V) (k : Fr → Option α) : Option α :=
  match dst with
  | some d => bif Nat.blt d nt then forceV v fun v' => k (upd fr d v') else none
  | none => k fr

/-- A guard: where it is unknown, both ways, and it is known from there on. -/
def guardK (fr : Fr) (ops : List Oper) (g : Option (Nat × Bool)) (k : Fr → Bool → Option α) : Option α :=
  match g with
  | none => k fr true
  | some (j, want) => ((ops[j]?).bind (·.dst)).bind fun t => match fr t with
      | .c (.f (.sc (.bool b))) => br b (k (upd fr t (.bool true)) want) (k (upd fr t (.bool false)) (!want))
      | .c .und => k fr false
      | _ => none

def stepOK (cfg : Cfg) (T : CallSem) (IK : CallK α) (me nt : Nat) (ops : List Oper) (o : Oper) (fr : Fr) (h : Hp) (k : Fr → Hp → Option α) : Option α :=
  guardK fr ops o.guard fun fr g =>
  bif g then aopK cfg T IK me fr h o.dst o.type o.op fun v e => applyK h e fun h' => putK nt fr o.dst v fun fr' => k fr' h'
  else putK nt fr o.dst (.c .und) fun fr' => k fr' h

def runOpsK (cfg : Cfg) (T : CallSem) (IK : CallK α) (me nt : Nat) (ops : List Oper) : List Oper → Fr → Hp → (Fr → Hp → Option α) → Option α
  | [], fr, h, k => k fr h
  | o :: r, fr, h, k => stepOK cfg T IK me nt ops o fr h fun fr h => runOpsK cfg T IK me nt ops r fr h k

def stepDK (cfg : Cfg) (T : CallSem) (IK : CallK α) (me nt : Nat) (dl : List Id) (ops : List Oper) (c : Cls) (o : Oper) (fr : Fr) (h hr : Hp) (k : Fr → Hp → Hp → Option α) : Option α :=
  guardK fr ops o.guard fun fr g =>
  bif g then
    bif okD dl c fr o then
      aopK cfg T IK me fr (tabD dl c h hr) o.dst o.type o.op fun v e => bif c.isW || quietE e then
        applyK h (effD dl c h e) fun h' => putK nt fr o.dst v fun fr' => k fr' h' (nextHr dl c fr o.op h' hr) else none
    else none
  else putK nt fr o.dst (.c .und) fun fr' => k fr' h hr

def runDK (cfg : Cfg) (T : CallSem) (IK : CallK α) (me nt : Nat) (dl : List Id) (ops : List Oper) : Nat → List Oper → Fr → Hp → Hp → (Fr → Hp → Option α) → Option α
  | _, [], fr, h, hr, k => k fr h
  | i, o :: r, fr, h, hr, k => stepDK cfg T IK me nt dl ops (clsIn cfg me ops i o) o fr h hr fun fr h hr => runDK cfg T IK me nt dl ops (i + 1) r fr h hr k

def regionK (cfg : Cfg) (T : CallSem) (IK : CallK α) (me nt : Nat) (id : Nat) (ops : Array Oper) (draw : Bool) (fr : Fr) (h : Hp) (k : Fr → Hp → Option α) : Option α :=
  bif draw then
    bif drawOk cfg me ops then runDK cfg T IK me nt (cfg.dl me id) ops.toList 0 ops.toList fr h h k else none
  else runOpsK cfg T IK me nt ops.toList ops.toList fr h k

def isRetE : Ex → Bool
  | .ret => true
  | _ => false

def isExt (i : Nat) : Ex → Bool
  | .ext j => Nat.beq j i
  | _ => false

def exIds (e : Ex) (k : Ex → Option α) : List Nat → Option α
  | [] => none
  | i :: r => br (isExt i e) (k (.ext i)) (exIds e k r)

/-- Code; T and Ti: what is asked inside a loop. -/
def aexecK (cfg : Cfg) (T Ti : CallSem) (IK : CallK α) (me nt na n : Nat) : Code → Fr → Hp → (Ex → Fr → Hp → Option α) → Option α
  | .skip, fr, h, k => k .nrm fr h
  | .region id ops draw, fr, h, k => regionK cfg T IK me nt id ops draw fr h (k .nrm)
  | .seq a b, fr, h, k => aexecK cfg T Ti IK me nt na n a fr h fun e fr h => match e with
      | .nrm => aexecK cfg T Ti IK me nt na n b fr h k
      | e => k e fr h
  | .cond c a b, fr, h, k => (match c with
      | .tmp t => (asB (fr t)).bind fun t' => br t' (aexecK cfg T Ti IK me nt na n a (upd fr t (.bool true)) h k) (aexecK cfg T Ti IK me nt na n b (upd fr t (.bool false)) h k)
      | c => (ev fr c).bind fun v => (asB v).bind fun t => br t (aexecK cfg T Ti IK me nt na n a fr h k) (aexecK cfg T Ti IK me nt na n b fr h k))
  | .block id b, fr, h, k => aexecK cfg T Ti IK me nt na n b fr h fun e fr h => k (leave id e) fr h
  | .loop b, fr, h, k =>
    let l := cfg.lh me (firstRegion b)
    (clean na l.head ⟨fr, h⟩).bind fun s => qb (loopT l (loopA na (aexec cfg T Ti me nt na n b) l.head l.out n s)) fun x =>
      bif distinct (l.osh.map (·.1)) && allIn (l.osh.map (·.1)) ((List.range na).map Id.arg) then
        (br (isRetE x.1) (k .ret (frOf ((encSl l.sh x.2.1).map fun p => (p.1, renV (idMap l.osh) p.2))) (hpIds ((encOs l.osh x.2.2).map fun p => (p.1, renO (idMap l.osh) p.2))))
          (exIds x.1 (fun e => k e (frOf ((encSl l.sh x.2.1).map fun p => (p.1, renV (idMap l.osh) p.2))) (hpIds ((encOs l.osh x.2.2).map fun p => (p.1, renO (idMap l.osh) p.2)))) l.exits)) else none
  | .exit id, fr, h, k => k (.ext id) fr h
  | .ret, fr, h, k => k .ret fr h
  | _, _, _, _ => none

def bodyK (cfg : Cfg) (T Ti : CallSem) (IK : CallK α) (n f : Nat) (fn : Func) (c : Code) (args : List V) (objs : List Obj) (k : V → List Obj → List Obj → Option α) : Option α :=
  bif Nat.ble args.length fn.ntmps then
    aexecK cfg T Ti IK f fn.ntmps objs.length n c (frArgs args) (hpOf .arg 0 objs) fun e fr h => match e with
      | .ext _ => none
      | _ => (resVs cfg ⟨fr, h⟩ fn.results.toList).bind fun vs => (finishA h objs.length (packV vs)).bind fun r => forceV r.1 fun v => k v r.2.1 r.2.2
  else none

end

/-- Calls that are run on the spot, to a depth. -/
def runI (P : Program) (cfg : Cfg) (T : CallSem) (n : Nat) : Nat → CallSem
  | 0 => fun _ _ _ => none
  | d + 1 => fun f args objs => match cfg.ext f with
      | some g => g args objs
      | none => match P.funcs[f]? with
        | some fn => match fn.body with
          | some c => bodyA cfg T (runI P cfg T n d) n f fn c args objs
          | none => none
        | none => none

def runK {α : Type} (P : Program) (cfg : Cfg) (T : CallSem) (n : Nat) : Nat → CallK α
  | 0 => fun _ _ _ _ => none
  | d + 1 => fun f args objs k => match cfg.ext f with
      | some g => qb (g args objs) fun r => k r.1 r.2.1 r.2.2
      | none => match P.funcs[f]? with
        | some fn => match fn.body with
          | some c => bodyK cfg T (runI P cfg T n d) (runK P cfg T n d) n f fn c args objs k
          | none => none
        | none => none

/-- The loop whose first region has this number. -/
def findLoop (r : Nat) : Code → Option Code
  | .loop b => bif Nat.beq (firstRegion b) r then some b else findLoop r b
  | .seq a b => match findLoop r a with
    | some x => some x
    | none => findLoop r b
  | .cond _ a b => match findLoop r a with
    | some x => some x
    | none => findLoop r b
  | .block _ b => findLoop r b
  | _ => none

def loopBody (P : Program) (f : FuncId) (r : Nat) : Option (Nat × Code) :=
  match P.funcs[f]? with
  | some fn => match fn.body with
    | some c => match findLoop r c with
      | some b => some (fn.ntmps, b)
      | none => none
    | none => none
  | none => none

/-- A loop, from a state on. -/
def lp (P : Program) (cfg : Cfg) (T : CallSem) (n d f r na q : Nat) (s : St) : Option (Ex × St) :=
  match loopBody P f r with
  | some b => loopA na (aexec cfg T (runI P cfg T n d) f b.1 na n b.2) (cfg.lh f r).head (cfg.lh f r).out q s
  | none => none

/-- The same, as plain data. -/
def lpT (P : Program) (cfg : Cfg) (T : CallSem) (n d f r na q : Nat) (s : St) : Option (LoopTy (cfg.lh f r)) := loopT (cfg.lh f r) (lp P cfg T n d f r na q s)

/-- One round of it. -/
def roundK (P : Program) (cfg : Cfg) (T : CallSem) (n d f r na : Nat) (s : St) : Option (Ex × St) :=
  match loopBody P f r with
  | some b => aexecK cfg T (runI P cfg T n d) (runK P cfg T n d) f b.1 na n b.2 s.fr s.h fun e fr h => match e with
    | .nrm => (clean na (cfg.lh f r).head ⟨fr, h⟩).bind fun s => some (.nrm, s)
    | e => (clean na (cfg.lh f r).out ⟨fr, h⟩).bind fun s => some (e, s)
  | none => none

/-- One function, over whatever the others answer. -/
def resid (P : Program) (cfg : Cfg) (T : CallSem) (n : Nat) (f : FuncId) (args : List V) (objs : List Obj) : Option (V × List Obj × List Obj) :=
  runK P cfg T n 6 f args objs fun v os ns => some (v, os, ns)

/-- The same, of a function that is handed nothing: what it hands back, frozen, as plain data. -/
def residT (P : Program) (cfg : Cfg) (T : CallSem) (n : Nat) (f : FuncId) (args : List V) (sh : Sh) : Option (ShTy sh) :=
  runK P cfg T n 6 f args [] fun v _ ns => (frzBack (hpOf (.ret 0) 0 ns) v).bind (dec sh)

/-- The same, of a function that is handed local memory. -/
def residH (P : Program) (cfg : Cfg) (T : CallSem) (n : Nat) (f : FuncId) (args : List V) (objs : List Obj) (sh : Sh) : Option (ShTy sh × ObTys objs) :=
  runK P cfg T n 6 f args objs fun v os ns => (frzR (v, os, ns)).bind fun r => bif isNil r.2.2 then (dec sh r.1).bind fun x => (decObs objs r.2.1).bind fun y => some (x, y) else none

end Go.Vm
